import Derived.Test.YtadgdikijdmceaaGreatTrC
set_option linter.unusedSimpArgs false
set_option linter.unusedVariables false
set_option maxRecDepth 100000
namespace Go.Proofs.YtadgdikijdmceaaGreat
open Go Go.Fx Go.Proofs Go.Pl

theorem CrOk.mono {A : HProp} {seg B B' : Nat} {g : CrS} (h : CrOk A seg B g) (hb : B ≤ B') : CrOk A seg B' g := { h with w := Nat.le_trans h.w hb }
theorem CrOk.fuse {A : HProp} {seg B : Nat} {g : CrS} (h : CrOk A seg B g) {n : Int} (hn : n ≤ 9223372036854775807) (h0 : g.fault = 0) : CrOk A seg B { g with s := { g.s with d := g.s.d.fuseTo n } } := by
  obtain ⟨a, b, c, d, e⟩ := h.up h0
  have hst : (g.s.d.still && decide (0 ≤ n)) = false := by rw [b.still]; rfl
  exact ⟨h.ext, h.tw, h.pre, h.w, ⟨h.cr.ok.fuseTo hn, h.cr.cr⟩, h.mvw, h.mp, h.ma, h.dr, h.room, h.lo, fun _ => ⟨a, ⟨b.ok.fuseTo hn, hst, b.loose, b.eq⟩, c, d, e⟩⟩
set_option maxHeartbeats 64000000 in
theorem TopicCrash_spec (sg : Nat) (u : Value) (A : HProp) (xs : List Ts) (hsg : sg ≤ 65535) (hA : Vw A 5 u (xs.map tsV)) (hv : ∀ x ∈ xs, TsG A x) :
    FSpec Tryz.prog 5 [.int .u16 (sg : Int), u] [A] HProp (fun P' => Ext A P') (fun _ => .bool true) (fun P' => [P']) := by
  have hH := HeavyT_spec u A xs hA (fun x hx => (hv x hx).r)
  have hr := rem20 sg hsg
  have hw1 : IntKind.i64.wrap (sg : Int) = (sg : Int) := i64_nat (by omega) (by omega)
  have hb0 : 0 ≤ (sg : Int).tmod 20 := by rw [show (sg : Int).tmod 20 = ((sg % 20 : Nat) : Int) from (Int.ofNat_tmod sg 20).symm]; omega
  have hb1 : (sg : Int).tmod 20 ≤ 19 := by rw [show (sg : Int).tmod 20 = ((sg % 20 : Nat) : Int) from (Int.ofNat_tmod sg 20).symm]; omega
  have hlen : (xs.map tsV).length = xs.length := by simp
  obtain ⟨seg, hseg⟩ : ∃ seg, seg = 1 + sg % 20 := ⟨_, rfl⟩
  have hs : 1 ≤ seg := by omega
  have hs1 : seg ≤ 65536 := by omega
  rw [← hseg] at hr
  have hws : IntKind.u64.wrap (seg : Int) = (seg : Int) := tp_wrap64 _ (by omega)
  have hsn : (seg : Int) ≠ 0 := by omega
  have hn := new_spec 1048576 (by decide) (by decide)
  have hO := fun b => tOpen_spec b (newD 1048576) nT seg A (by decide) (by decide) hs hs1 (by simp [newD]) (by simp [newD]) (.new (by decide) (by decide)) (by simp [newD])
  rw [open_new18 (by decide) (by decide)] at hO
  simp only [tpV_ok] at hO
  have hfn : Firm (newD 1048576) [] := Firm.new (by decide) (by decide)
  have hro0 : (newD 1048576).room = 1048576 := rfl
  generalize newD 1048576 = d0 at hn hO hfn hro0
  refine spec_intro [] _ Tryz.func5 rfl Tryz.ntmps5 (by rfl) (fun w0 R => ?_)
  refine ok_learn (VwIn.slice (VwIn.here hA)) ?_
  rintro ⟨pu, cu, rfl⟩
  repeat' (first | (refine go_Y ?_; intros) | (refine gs_Y ?_ ?_ <;> (intro hgd; try (simp only [Bool.not_true, Bool.not_false] at hgd))) | (refine gc_Y ?_ ?_ <;> intro _) | fail)
  refine cl_Y (hH) ?_
  intro y hy
  cases y with
  | true =>
    repeat' (first | (refine go_Y ?_; intros) | (refine gs_Y ?_ ?_ <;> (intro hgd; try (simp only [Bool.not_true, Bool.not_false] at hgd))) | (refine gc_Y ?_ ?_ <;> intro _) | fail)
    refine cl_Y (alive18_spec) ?_
    intro _ _
    repeat' (first | (refine go_Y ?_; intros) | (refine gs_Y ?_ ?_ <;> (intro hgd; try (simp only [Bool.not_true, Bool.not_false] at hgd))) | (refine gc_Y ?_ ?_ <;> intro _) | fail)
    (refine rt_Y (y := A) (hrs := Tryz.results5) (hv := ?_) (hφ := ?_))
    · rfl
    · exact .refl _
  | false =>
    obtain ⟨hx1, hx2, hx3⟩ := hy rfl
    repeat' (first | (refine go_Y ?_; intros) | (refine gs_Y ?_ ?_ <;> (intro hgd; try (simp only [Bool.not_true, Bool.not_false] at hgd))) | (refine gc_Y ?_ ?_ <;> intro _) | fail)
    rw [hr]
    refine opsL_mapL (fun _ h => nilRow (e := 9) (n := 1) h) ?_
    refine cl_Y (hn) ?_
    intro b _
    repeat' (first | (refine go_Y ?_; intros) | (refine gs_Y ?_ ?_ <;> (intro hgd; try (simp only [Bool.not_true, Bool.not_false] at hgd))) | (refine gc_Y ?_ ?_ <;> intro _) | fail)
    refine cl_Y (hO b) ?_
    rintro ⟨tb, vs, l0, P0⟩ ⟨g0, g1⟩
    obtain ⟨g1, g2⟩ := g1 trivial
    dsimp only at g0 g1 g2 ⊢
    obtain rfl : l0 = [] := List.map_eq_nil_iff.1 g2
    repeat' (first | (refine go_Y ?_; intros) | (refine gs_Y ?_ ?_ <;> (intro hgd; try (simp only [Bool.not_true, Bool.not_false] at hgd))) | (refine gc_Y ?_ ?_ <;> intro _) | fail)
    rename_i rb
    have hok0 : PlOk A seg ⟨tb, vs, [], d0, 0, [], ⟨.slice none 0 0, rfl⟩, P0⟩ := ⟨g0, g1, ⟨Nat.zero_mod _, rfl, .inl ⟨rfl, rfl⟩⟩, hfn, ⟨[], rfl, rfl⟩, by show wtL [] ≤ _; decide⟩
    refine ok_map (L' := crP b rb seg ⟨⟨tb, vs, [], d0, 0, [], ⟨.slice none 0 0, rfl⟩, P0⟩, 0, [], ⟨.slice none 0 0, rfl⟩, 0⟩ ++ R) entD ?_
    refine ok_loop' (γ := Nat × CrS) (fun g ρ L => g.1 ≤ xs.length ∧ CrOk A seg (wtS (xs.take g.1)) g.2 ∧ Knows ρ [(1, .slice pu (xs.map tsV).length cu), (5, .int .i64 (seg : Int)), (6, .pointer (some ⟨b, 0, none⟩)), (8, .pointer (some ⟨g.2.s.tb, 0, none⟩)), (10, .pointer (some ⟨rb, 0, none⟩)), (11, g.2.mv.1), (12, .int .u64 (g.2.drop : Int)), (13, .int .i64 g.1)] ∧ L = crP b rb seg g.2 ++ R) (fun g => xs.length - g.1)
      (0, ⟨⟨tb, vs, [], d0, 0, [], ⟨.slice none 0 0, rfl⟩, P0⟩, 0, [], ⟨.slice none 0 0, rfl⟩, 0⟩) ⟨Nat.zero_le _, hok0.cr hs (by show wtL [] ≤ _; exact Nat.zero_le _) hro0, ⟨rfl, rfl, rfl, rfl, rfl, rfl, rfl, rfl, trivial⟩, rfl⟩ ?_
    rintro ⟨i, g⟩ ρ L ⟨hi, hok, hk, rfl⟩
    dsimp only at hi hok hk ⊢
    refine ok_regs hk ?_
    have hE := hok.ext
    cases t1 : decide ((i : Int) < ((xs.map tsV).length : Int)) with
    | false =>
      repeat' (first | (refine go_Y ?_; intros) | (refine gs_Y ?_ ?_ <;> (intro hgd; try (simp only [Bool.not_true, Bool.not_false] at hgd))) | (refine gc_Y ?_ ?_ <;> intro _) | fail)
      refine cl_Y (alive18_spec) ?_
      intro _ _
      repeat' (first | (refine go_Y ?_; intros) | (refine gs_Y ?_ ?_ <;> (intro hgd; try (simp only [Bool.not_true, Bool.not_false] at hgd))) | (refine gc_Y ?_ ?_ <;> intro _) | fail)
      (refine rt_Y (y := g.s.P) (hrs := Tryz.results5) (hv := ?_) (hφ := ?_))
      · rfl
      · exact hE
    | true =>
      have h : i < xs.length := by have := of_decide_eq_true t1; omega
      have hn1 : i < (xs.map tsV).length := by omega
      have hx : (xs.map tsV)[i]? = some (tsV xs[i]) := by rw [List.getElem?_map, List.getElem?_eq_getElem h]; rfl
      have hwi := wtS_take h
      have hwm : wtS (xs.take (i + 1)) ≤ wtS xs := by
        unfold wtS
        have := congrArg (fun l : List Ts => (l.map fun x => wtL x.l).sum) (List.take_append_drop (i + 1) xs)
        rw [List.map_append, List.sum_append] at this
        omega
      have hvG := hv _ (List.getElem_mem h)
      have hvx := hE.vw hvG.r.1
      have hcx := hvG.cap
      have hnx := hvG.n
      obtain ⟨hz1, hz2⟩ := hx3 _ (List.getElem_mem h)
      have hAP := hE.vw hA
      refine ok_learn (VwIn.base (n := 5) (p := pu) (len := (xs.map tsV).length) (cap := cu) (xs := xs.map tsV) (VwIn.there (VwIn.there (VwIn.there (VwIn.there (VwIn.here hAP))))) (by intro e; rw [e] at hn1; simp at hn1)) ?_
      rintro ⟨bu, ou, rfl⟩
      generalize xs[i] = x at hx hwi hvx hcx hnx hz1 hz2
      obtain ⟨op, l, ⟨v, hvc⟩, off, n, m⟩ := x
      dsimp only at hx hwi hvx hcx hnx hz1 hz2
      dsimp only [tsV] at hx
      have hokm : CrOk A seg (wtS (xs.take (i + 1))) g := hok.mono (by omega)
      have hFa := tFault_spec g.s.tb b nT (seg : Int) g.s.vs g.fault
      have hRN := rNext_spec rb g.s.rv.1 g.s.f seg g.s.all (by have := hok.w; unfold wtL at this; omega)
      by_cases o0 : op = 0
      · subst o0
        cases f0 : decide (g.fault = 0) with
        | false =>
          have f1 : (!decide (g.fault = 0)) = true := by rw [f0]; rfl
          repeat' (first | (refine go_Y ?_; intros) | (refine gs_Y ?_ ?_ <;> (intro hgd; try (simp only [Bool.not_true, Bool.not_false] at hgd))) | (refine gc_Y ?_ ?_ <;> intro _) | fail)
          refine cl_Y (hFa) ?_
          intro _ _
          repeat' (first | (refine go_Y ?_; intros) | (refine gs_Y ?_ ?_ <;> (intro hgd; try (simp only [Bool.not_true, Bool.not_false] at hgd))) | (refine gc_Y ?_ ?_ <;> intro _) | fail)
          refine cont_map (L' := crP b rb seg g ++ R) entD ?_
          exact cont_back (i + 1, g) ⟨h, hokm, ⟨rfl, rfl, rfl, rfl, rfl, rfl, rfl, rfl, trivial⟩, rfl⟩ (by dsimp only; omega)
        | true =>
          have f1 : (!decide (g.fault = 0)) = false := by rw [f0]; rfl
          have hf0 := of_decide_eq_true f0
          have hpl := hok.pl (by omega) hf0
          obtain ⟨u1, u2, u3, u4, u5⟩ := hok.up hf0
          obtain ⟨p1, p2, p3, p4, p5, p6, p7⟩ := hpl.facts hs hs1
          obtain ⟨q, hq1, hq2⟩ := hpl.pre
          have hxa := allOk_sum hz2
          have hwl := wtL_lenT l
          have hwB := hok.w
          have hxn : l.length ≤ 1000 := by omega
          have hfus : fused g.s.d.files = lenT (allR (g.s.l.map Sm.s)) := by
            rw [u2.eq.fused u2.ok.nd (by rw [fsS_keys]; exact (hok.tw.nm hs).nodup), fused_fsS]
          have hroom : (fused g.s.d.files : Int) + (lenT l : Int) ≤ g.s.d.room := by rw [hfus, hok.room]; omega
          have hmain := append_main (rs := l) may_nT (by decide) hs hok.tw u2 hxa (by rw [p1]; omega) (by omega) (.inr hroom)
          have hAr := appendT_room nT seg (g.s.l.map Sm.s) 0 l g.s.d
          have hAl := appendT_loose nT seg (g.s.l.map Sm.s) 0 l g.s.d u2.ok (by omega)
          have hAp := fun (u : Value) (P : HProp) (e : Ext g.s.P P) (hu : RcR P u l) => tAppend_spec g.s.tb b nT seg g.s.vs 0 g.s.d g.s.l u l P (u1.ext e) hu (by decide) hs hs1 u2.ok (fun y hy => by
            obtain ⟨_, a2, a3, a4⟩ := p7 y hy
            exact ⟨a2, by omega, by omega⟩) (by rw [u2.loose]; exact Nat.zero_le _) (by omega) (by omega) (by rw [p1]; omega) (by omega)
          have hRA := fun (u : Value) (P : HProp) (hu : Vw P 1 u (l.map strV)) => rAppend_spec rb g.s.rv.1 u g.s.f seg g.s.all l P (by omega) (by omega) hu
          rw [u2.loose, List.length_nil] at hAl
          rw [hok.room] at hAr
          have happ := fun (v' : Value) (P' : HProp) (d' : Dk) (f' : Int) (mv : V1s) => hok.app (B' := wtS (xs.take (i + 1))) (v' := v') (P' := P') (d' := d') (f' := f') (rs := l) (mv := mv) hf0 hs
          have hre : l = [] → (appendT nT seg (g.s.l.map Sm.s) 0 l g.s.d).e = 0 := fun e => by subst e; rfl
          generalize appendT nT seg (g.s.l.map Sm.s) 0 l g.s.d = r at hmain hAp hAr hAl hre
          obtain ⟨⟨tb, vs, sl, d, f, all, ⟨rv, hrv⟩, P⟩, fault, more, ⟨mv, hmv⟩, drop⟩ := g
          dsimp only at hf0 u3 u4 u5
          subst hf0 u3 u4 u5
          dsimp only at hpl u1 u2 p1 p2 p3 p4 p5 p6 p7 hq1 hq2 hwB hfus hroom hmain hAr hAl hAp hRA happ hvx hFa hE ⊢
          have hwn : wtL ([] : List BA) = 0 := rfl
          rw [hwn] at hwB
          unfold crP
          dsimp only
          have ll : (l.map strV).length = l.length := by simp
          refine ok_learn (VwIn.slice (VwIn.there (VwIn.there (VwIn.there (VwIn.there (VwIn.here hvx)))))) ?_
          rintro ⟨px, cx, rfl⟩
          rcases hmain with gg | ⟨_, _, gf⟩ | ⟨ge, gf, gc, _⟩
          · have he := gg.e
            have hg0 := gg.f0
            obtain ⟨rl, rf, rd, rn, re⟩ := r
            dsimp only at he hg0 hAp gg hAr hAl
            subst he hg0
            refine ok_map (fun _ h => nilRow (e := 9) (n := 1) h) ?_
            repeat' (first | (refine go_Y ?_; intros) | (refine gs_Y ?_ ?_ <;> (intro hgd; try (simp only [Bool.not_true, Bool.not_false] at hgd))) | (refine gc_Y ?_ ?_ <;> intro _) | fail)
            refine cl_Y (hFa) ?_
            intro _ _
            repeat' (first | (refine go_Y ?_; intros) | (refine gs_Y ?_ ?_ <;> (intro hgd; try (simp only [Bool.not_true, Bool.not_false] at hgd))) | (refine gc_Y ?_ ?_ <;> intro _) | fail)
            rename_i bx w hw0
            refine ops_learn (rowShapeS (e := 9) (n := 1) (v := w) (xs := [] ++ l.map strV) (by decide) takeD) ?_
            rintro ⟨p2, c2, rfl, hc2, hp2⟩
            rw [List.nil_append] at hw0 hc2 ⊢
            refine ops_poolN (ty := 9) (n := 1) (v := .slice p2 (l.map strV).length c2) (xs := l.map strV) (P := P) takeD ?_
            intro P1 hE1 hv1
            refine cl_Y (hAp (.slice p2 (l.map strV).length c2) P1 hE1 ⟨hv1, ⟨p2, c2, rfl, hc2, hp2⟩⟩) ?_
            rintro ⟨v', l', P2⟩ ⟨k1, k2, k3⟩
            dsimp only at k1 k2 k3 ⊢
            repeat' (first | (refine go_Y ?_; intros) | (refine gs_Y ?_ ?_ <;> (intro hgd; try (simp only [Bool.not_true, Bool.not_false] at hgd))) | (refine gc_Y ?_ ?_ <;> intro _) | fail)
            refine cl_Y (hRA (.slice px (l.map strV).length cx) P2 ((hE1.trans k1).vw hvx)) ?_
            rintro ⟨rv', hrv'⟩ _
            repeat' (first | (refine go_Y ?_; intros) | (refine gs_Y ?_ ?_ <;> (intro hgd; try (simp only [Bool.not_true, Bool.not_false] at hgd))) | (refine gc_Y ?_ ?_ <;> intro _) | fail)
            refine cont_map (L' := crP b rb seg ⟨⟨tb, v', l', rd, f, all ++ l, ⟨rv', hrv'⟩, P2⟩, 0, [], ⟨.slice none 0 0, rfl⟩, 0⟩ ++ R) entD ?_
            refine cont_back (i + 1, ⟨⟨tb, v', l', rd, f, all ++ l, ⟨rv', hrv'⟩, P2⟩, 0, [], ⟨.slice none 0 0, rfl⟩, 0⟩) ⟨h, PlOk.cr (B := wtS (xs.take (i + 1))) ⟨hE.trans (hE1.trans k1), k2, by show Tw nT seg f (l'.map Sm.s); rw [k3]; exact gg.tw, by show Firm rd (fsS (l'.map Sm.s)); rw [k3]; exact gg.firm, ⟨q, ?_, hq2⟩, by show wtL (all ++ l) ≤ _; rw [wtL_app]; omega⟩ hs (by show wtL (all ++ l) ≤ _; rw [wtL_app]; omega) hAr, ⟨rfl, rfl, rfl, rfl, rfl, rfl, rfl, rfl, trivial⟩, rfl⟩ (by dsimp only; omega)
            show all ++ l = q ++ allR (l'.map Sm.s)
            rw [k3, gg.rc, hq1, List.append_assoc]
          · exfalso; omega
          · have hlne : l.map strV ≠ [] := by
              intro e
              exact ge (hre (List.map_eq_nil_iff.1 e))
            obtain ⟨_, _, cv0, ecap, hcv⟩ := hcx
            simp only [Value.slice.injEq] at ecap
            obtain ⟨rfl, rfl, rfl⟩ := ecap
            refine ok_learn (VwIn.base (n := 1) (VwIn.there (VwIn.there (VwIn.there (VwIn.there (VwIn.here hvx))))) hlne) ?_
            rintro ⟨b0, o0', rfl⟩
            have t2 : decide (r.e = 0) = false := decide_eq_false ge
            refine ok_map (fun _ h => nilRow (e := 9) (n := 1) h) ?_
            repeat' (first | (refine go_Y ?_; intros) | (refine gs_Y ?_ ?_ <;> (intro hgd; try (simp only [Bool.not_true, Bool.not_false] at hgd))) | (refine gc_Y ?_ ?_ <;> intro _) | fail)
            refine cl_Y (hFa) ?_
            intro _ _
            repeat' (first | (refine go_Y ?_; intros) | (refine gs_Y ?_ ?_ <;> (intro hgd; try (simp only [Bool.not_true, Bool.not_false] at hgd))) | (refine gc_Y ?_ ?_ <;> intro _) | fail)
            rename_i bx w hw0
            refine ops_learn (rowShapeS (e := 9) (n := 1) (v := w) (xs := [] ++ l.map strV) (by decide) takeD) ?_
            rintro ⟨p2, c2, rfl, hc2, hp2⟩
            rw [List.nil_append] at hw0 hc2 ⊢
            refine ops_poolN (ty := 9) (n := 1) (v := .slice p2 (l.map strV).length c2) (xs := l.map strV) (P := P) takeD ?_
            intro P1 hE1 hv1
            refine cl_Y (hAp (.slice p2 (l.map strV).length c2) P1 hE1 ⟨hv1, ⟨p2, c2, rfl, hc2, hp2⟩⟩) ?_
            rintro ⟨v', l', P2⟩ ⟨k1, k2, k3⟩
            dsimp only at k1 k2 k3 ⊢
            repeat' (first | (refine go_Y ?_; intros) | (refine gs_Y ?_ ?_ <;> (intro hgd; try (simp only [Bool.not_true, Bool.not_false] at hgd))) | (refine gc_Y ?_ ?_ <;> intro _) | fail)
            refine cont_map (L' := crP b rb seg ⟨⟨tb, v', sl, r.d, f, all, ⟨rv, hrv⟩, P2⟩, r.f, l, ⟨.slice (some ⟨b0, o0', none⟩) (l.map strV).length cx, rfl⟩, 0⟩ ++ R) entD ?_
            exact cont_back (i + 1, ⟨⟨tb, v', sl, r.d, f, all, ⟨rv, hrv⟩, P2⟩, r.f, l, ⟨.slice (some ⟨b0, o0', none⟩) (l.map strV).length cx, rfl⟩, 0⟩) ⟨h, happ v' P2 r.d r.f ⟨.slice (some ⟨b0, o0', none⟩) (l.map strV).length cx, rfl⟩ (hE1.trans k1) gf gc ((hE1.trans k1).vw hvx) ⟨_, _, _, rfl, hcv, fun q e => by cases e; rfl⟩ hxa hAr (by omega) (by omega), ⟨rfl, rfl, rfl, rfl, rfl, rfl, rfl, rfl, trivial⟩, rfl⟩ (by dsimp only; omega)
      by_cases o2 : op = 2
      · subst o2
        cases f0 : decide (g.fault = 0) with
        | false =>
          have f1 : (!decide (g.fault = 0)) = true := by rw [f0]; rfl
          repeat' (first | (refine go_Y ?_; intros) | (refine gs_Y ?_ ?_ <;> (intro hgd; try (simp only [Bool.not_true, Bool.not_false] at hgd))) | (refine gc_Y ?_ ?_ <;> intro _) | fail)
          rename_i bx
          refine ok_drawL (cv := []) [7] ([pts bx (.cells [.int .i64 2, v, .int .u64 (off : Int), .int .i64 n, .int .i64 m].toArray 25)]) (takeD) (by kernel_rfl) rfl (by decide +kernel) ?_
          repeat' (first | (refine go_Y ?_; intros) | (refine gs_Y ?_ ?_ <;> (intro hgd; try (simp only [Bool.not_true, Bool.not_false] at hgd))) | (refine gc_Y ?_ ?_ <;> intro _) | fail)
          refine cl_Y (hFa) ?_
          intro _ _
          repeat' (first | (refine go_Y ?_; intros) | (refine gs_Y ?_ ?_ <;> (intro hgd; try (simp only [Bool.not_true, Bool.not_false] at hgd))) | (refine gc_Y ?_ ?_ <;> intro _) | fail)
          refine cont_map (L' := crP b rb seg g ++ R) entD ?_
          exact cont_back (i + 1, g) ⟨h, hokm, ⟨rfl, rfl, rfl, rfl, rfl, rfl, rfl, rfl, trivial⟩, rfl⟩ (by dsimp only; omega)
        | true =>
          have f1 : (!decide (g.fault = 0)) = false := by rw [f0]; rfl
          have hf0 := of_decide_eq_true f0
          have hpl := hok.pl (by omega) hf0
          obtain ⟨u1, u2, u3, u4, u5⟩ := hok.up hf0
          obtain ⟨p1, p2, p3, p4, p5, p6, p7⟩ := hpl.facts hs hs1
          have hwB := hok.w
          have hD := tDrop_spec g.s.tb b nT (seg : Int) g.s.vs 0 g.s.d g.s.l off g.s.P u1 (by omega) (by omega) (fun y hy => (p7 y hy).1) u2.ok (by rw [u2.loose]; exact Nat.zero_le _)
          have hDr := dropT_room off (g.s.l.map Sm.s) 0 g.s.d
          have hDl := dropT_loose off (g.s.l.map Sm.s) 0 g.s.d
          rw [hok.room] at hDr
          rw [u2.loose, List.length_nil, List.length_map] at hDl
          have hkl : dropK off (g.s.l.map Sm.s) < (g.s.l.map Sm.s).length ∨ dropK off (g.s.l.map Sm.s) = 0 := by
            by_cases h0 : g.s.l.map Sm.s = []
            · right; rw [h0]; rfl
            · left; exact dropK_lt _ _ h0
          have hdm := fun ho => drop_main (off := off) may_nT (by decide) hs hok.tw u2 ho
          have hrf := rDropF_eq hs off (g.s.l.map Sm.s) g.s.f (nextS (g.s.l.map Sm.s)) hok.tw (by omega)
          have hRD := fun ho => rDrop_spec rb g.s.rv.1 g.s.f seg off g.s.all (by omega) ho hs (by omega) (by omega)
          have hwf := fun (d : Dk) (l : List Sm) (f : Nat) (v : Value) => hpl.wf (d := d) (l := l) (f := f) (v := v) (P := g.s.P) (.refl _)
          have hdp := fun (v' : Value) (d' : Dk) (f' : Int) => hokm.drp (v' := v') (d' := d') (f' := f') (off := off) hf0 hs
          rw [p1] at hrf hdm
          obtain ⟨⟨tb, vs, sl, d, f, all, ⟨rv, hrv⟩, P⟩, fault, more, ⟨mv, hmv⟩, drop⟩ := g
          dsimp only at hf0 u3 u4 u5
          subst hf0 u3 u4 u5
          dsimp only at hpl u1 u2 p1 p2 p3 p4 p5 p6 p7 hwB hD hDr hDl hkl hdm hrf hRD hwf hdp hFa hRN hE hokm ⊢
          have hwn : wtL ([] : List BA) = 0 := rfl
          rw [hwn] at hwB
          unfold crP
          dsimp only
          cases t9 : decide ((all.length : Int) < (off : Int)) with
          | true =>
            clear hD hDr hDl hdm hRD hrf hwf hdp hkl
            repeat' (first | (refine go_Y ?_; intros) | (refine gs_Y ?_ ?_ <;> (intro hgd; try (simp only [Bool.not_true, Bool.not_false] at hgd))) | (refine gc_Y ?_ ?_ <;> intro _) | fail)
            rename_i bx
            refine ok_drawL (cv := []) [7] ([pts bx (.cells [.int .i64 2, v, .int .u64 (off : Int), .int .i64 n, .int .i64 m].toArray 25)]) (takeD) (by kernel_rfl) rfl (by decide +kernel) ?_
            repeat' (first | (refine go_Y ?_; intros) | (refine gs_Y ?_ ?_ <;> (intro hgd; try (simp only [Bool.not_true, Bool.not_false] at hgd))) | (refine gc_Y ?_ ?_ <;> intro _) | fail)
            refine clW_Y ([pts bx (.cells [.int .i64 2, v, .int .u64 (off : Int), .int .i64 n, .int .i64 m].toArray 25)]) (hFa) ?_
            intro _ _
            repeat' (first | (refine go_Y ?_; intros) | (refine gs_Y ?_ ?_ <;> (intro hgd; try (simp only [Bool.not_true, Bool.not_false] at hgd))) | (refine gc_Y ?_ ?_ <;> intro _) | fail)
            refine clN_Y (hRN) ?_
            intro _ _
            repeat' (first | (refine go_Y ?_; intros) | (refine gs_Y ?_ ?_ <;> (intro hgd; try (simp only [Bool.not_true, Bool.not_false] at hgd))) | (refine gc_Y ?_ ?_ <;> intro _) | fail)
            refine cont_map (L' := crP b rb seg ⟨⟨tb, vs, sl, d, f, all, ⟨rv, hrv⟩, P⟩, 0, [], ⟨.slice none 0 0, hmv⟩, 0⟩ ++ R) entD ?_
            exact cont_back (i + 1, ⟨⟨tb, vs, sl, d, f, all, ⟨rv, hrv⟩, P⟩, 0, [], ⟨.slice none 0 0, hmv⟩, 0⟩) ⟨h, hokm, ⟨rfl, rfl, rfl, rfl, rfl, rfl, rfl, rfl, trivial⟩, rfl⟩ (by dsimp only; omega)
          | false =>
            have ho : off ≤ all.length := by have := of_decide_eq_false t9; omega
            rcases hdm ho with ⟨d', e1, e2, e3, e4⟩ | ⟨l2, d', e1, e2, e3⟩
            · rw [e1] at hD hDr hDl
              dsimp only at hD hDr hDl
              have hRD := hRD ho
              rw [hrf] at hRD
              clear hdm hdp hrf
              generalize dropK off (sl.map Sm.s) = kk at *
              repeat' (first | (refine go_Y ?_; intros) | (refine gs_Y ?_ ?_ <;> (intro hgd; try (simp only [Bool.not_true, Bool.not_false] at hgd))) | (refine gc_Y ?_ ?_ <;> intro _) | fail)
              rename_i bx
              refine ok_drawL (cv := []) [7] ([pts bx (.cells [.int .i64 2, v, .int .u64 (off : Int), .int .i64 n, .int .i64 m].toArray 25)]) (takeD) (by kernel_rfl) rfl (by decide +kernel) ?_
              repeat' (first | (refine go_Y ?_; intros) | (refine gs_Y ?_ ?_ <;> (intro hgd; try (simp only [Bool.not_true, Bool.not_false] at hgd))) | (refine gc_Y ?_ ?_ <;> intro _) | fail)
              refine clW_Y ([pts bx (.cells [.int .i64 2, v, .int .u64 (off : Int), .int .i64 n, .int .i64 m].toArray 25)]) (hFa) ?_
              intro _ _
              repeat' (first | (refine go_Y ?_; intros) | (refine gs_Y ?_ ?_ <;> (intro hgd; try (simp only [Bool.not_true, Bool.not_false] at hgd))) | (refine gc_Y ?_ ?_ <;> intro _) | fail)
              refine clN_Y (hRN) ?_
              intro _ _
              repeat' (first | (refine go_Y ?_; intros) | (refine gs_Y ?_ ?_ <;> (intro hgd; try (simp only [Bool.not_true, Bool.not_false] at hgd))) | (refine gc_Y ?_ ?_ <;> intro _) | fail)
              refine cl_Y (hD) ?_
              rintro ⟨v', l'⟩ ⟨k1, k2⟩
              dsimp only at k1 k2 ⊢
              repeat' (first | (refine go_Y ?_; intros) | (refine gs_Y ?_ ?_ <;> (intro hgd; try (simp only [Bool.not_true, Bool.not_false] at hgd))) | (refine gc_Y ?_ ?_ <;> intro _) | fail)
              refine cl_Y (hRD) ?_
              intro _ _
              repeat' (first | (refine go_Y ?_; intros) | (refine gs_Y ?_ ?_ <;> (intro hgd; try (simp only [Bool.not_true, Bool.not_false] at hgd))) | (refine gc_Y ?_ ?_ <;> intro _) | fail)
              refine cont_map (L' := crP b rb seg ⟨⟨tb, v', l', d', f + seg * kk, all, ⟨rv, hrv⟩, P⟩, 0, [], ⟨.slice none 0 0, hmv⟩, 0⟩ ++ R) entD ?_
              exact cont_back (i + 1, ⟨⟨tb, v', l', d', f + seg * kk, all, ⟨rv, hrv⟩, P⟩, 0, [], ⟨.slice none 0 0, hmv⟩, 0⟩) ⟨h, PlOk.cr (B := wtS (xs.take (i + 1))) (hwf d' l' (f + seg * kk) v' k1 _ hkl k2 rfl (by rw [k2]; exact e2)) hs (by show wtL all ≤ _; omega) hDr, ⟨rfl, rfl, rfl, rfl, rfl, rfl, rfl, rfl, trivial⟩, rfl⟩ (by dsimp only; omega)
            · rw [e1] at hD hDr hDl
              dsimp only at hD hDr hDl
              have hdpp := hdp
              clear hdm hrf hRD hwf hdp hkl
              generalize dropK off (sl.map Sm.s) = kk at *
              repeat' (first | (refine go_Y ?_; intros) | (refine gs_Y ?_ ?_ <;> (intro hgd; try (simp only [Bool.not_true, Bool.not_false] at hgd))) | (refine gc_Y ?_ ?_ <;> intro _) | fail)
              rename_i bx
              refine ok_drawL (cv := []) [7] ([pts bx (.cells [.int .i64 2, v, .int .u64 (off : Int), .int .i64 n, .int .i64 m].toArray 25)]) (takeD) (by kernel_rfl) rfl (by decide +kernel) ?_
              repeat' (first | (refine go_Y ?_; intros) | (refine gs_Y ?_ ?_ <;> (intro hgd; try (simp only [Bool.not_true, Bool.not_false] at hgd))) | (refine gc_Y ?_ ?_ <;> intro _) | fail)
              refine clW_Y ([pts bx (.cells [.int .i64 2, v, .int .u64 (off : Int), .int .i64 n, .int .i64 m].toArray 25)]) (hFa) ?_
              intro _ _
              repeat' (first | (refine go_Y ?_; intros) | (refine gs_Y ?_ ?_ <;> (intro hgd; try (simp only [Bool.not_true, Bool.not_false] at hgd))) | (refine gc_Y ?_ ?_ <;> intro _) | fail)
              refine clN_Y (hRN) ?_
              intro _ _
              repeat' (first | (refine go_Y ?_; intros) | (refine gs_Y ?_ ?_ <;> (intro hgd; try (simp only [Bool.not_true, Bool.not_false] at hgd))) | (refine gc_Y ?_ ?_ <;> intro _) | fail)
              refine cl_Y (hD) ?_
              rintro ⟨v', l'⟩ ⟨k1, k2⟩
              dsimp only at k1 k2 ⊢
              repeat' (first | (refine go_Y ?_; intros) | (refine gs_Y ?_ ?_ <;> (intro hgd; try (simp only [Bool.not_true, Bool.not_false] at hgd))) | (refine gc_Y ?_ ?_ <;> intro _) | fail)
              refine cont_map (L' := crP b rb seg ⟨⟨tb, v', sl, d', f, all, ⟨rv, hrv⟩, P⟩, 20, [], ⟨.slice none 0 0, hmv⟩, off⟩ ++ R) entD ?_
              exact cont_back (i + 1, ⟨⟨tb, v', sl, d', f, all, ⟨rv, hrv⟩, P⟩, 20, [], ⟨.slice none 0 0, hmv⟩, off⟩) ⟨h, hdpp v' d' 20 (by decide) e2 ho hDr (by omega) (by omega), ⟨rfl, rfl, rfl, rfl, rfl, rfl, rfl, rfl, trivial⟩, rfl⟩ (by dsimp only; omega)
      have n0 : decide (op = 0) = false := decide_eq_false o0
      have n2 : decide (op = 2) = false := decide_eq_false o2
      by_cases o4 : op = 4
      · subst o4
        cases f0 : decide (g.fault = 0) with
        | false =>
          repeat' (first | (refine go_Y ?_; intros) | (refine gs_Y ?_ ?_ <;> (intro hgd; try (simp only [Bool.not_true, Bool.not_false] at hgd))) | (refine gc_Y ?_ ?_ <;> intro _) | fail)
          refine cl_Y (hFa) ?_
          intro _ _
          repeat' (first | (refine go_Y ?_; intros) | (refine gs_Y ?_ ?_ <;> (intro hgd; try (simp only [Bool.not_true, Bool.not_false] at hgd))) | (refine gc_Y ?_ ?_ <;> intro _) | fail)
          refine cont_map (L' := crP b rb seg g ++ R) entD ?_
          exact cont_back (i + 1, g) ⟨h, hokm, ⟨rfl, rfl, rfl, rfl, rfl, rfl, rfl, rfl, trivial⟩, rfl⟩ (by dsimp only; omega)
        | true =>
          have hfz := fuse_spec b g.s.d n
          repeat' (first | (refine go_Y ?_; intros) | (refine gs_Y ?_ ?_ <;> (intro hgd; try (simp only [Bool.not_true, Bool.not_false] at hgd))) | (refine gc_Y ?_ ?_ <;> intro _) | fail)
          refine cl_Y (hFa) ?_
          intro _ _
          repeat' (first | (refine go_Y ?_; intros) | (refine gs_Y ?_ ?_ <;> (intro hgd; try (simp only [Bool.not_true, Bool.not_false] at hgd))) | (refine gc_Y ?_ ?_ <;> intro _) | fail)
          refine cl_Y (hfz) ?_
          intro _ _
          repeat' (first | (refine go_Y ?_; intros) | (refine gs_Y ?_ ?_ <;> (intro hgd; try (simp only [Bool.not_true, Bool.not_false] at hgd))) | (refine gc_Y ?_ ?_ <;> intro _) | fail)
          refine cont_map (L' := crP b rb seg { g with s := { g.s with d := g.s.d.fuseTo n } } ++ R) entD ?_
          exact cont_back (i + 1, { g with s := { g.s with d := g.s.d.fuseTo n } }) ⟨h, hokm.fuse hnx (of_decide_eq_true f0), ⟨rfl, rfl, rfl, rfl, rfl, rfl, rfl, rfl, trivial⟩, rfl⟩ (by dsimp only; omega)
      have n4 : decide (op = 4) = false := decide_eq_false o4
      by_cases o5 : op = 5
      · subst o5
        have hCr := crash_spec b g.s.d n m hok.cr.ok (by have := hok.lo; omega)
        obtain ⟨d', l', j, k, e1, e2, e3, e4, hk1, hk2, e5, e6, nm1, nm2⟩ := hok.after hs n m
        obtain ⟨q, hq1, hq2⟩ := hok.pre
        obtain ⟨sp1, sp2⟩ := split18 hok.tw hq1 hq2 hs hk2
        have hwB := hok.w
        have hal : g.s.all.length ≤ 1000 := by unfold wtL at hwB; omega
        have hml : g.more.length ≤ 1000 := by unfold wtL at hwB; omega
        have hnxl : nextS (g.s.l.map Sm.s) = g.s.all.length := by rw [hok.tw.next, hq1, List.length_append]; omega
        have hspl := congrArg List.length sp1
        rw [List.length_drop] at hspl
        have hOp := tOpen_spec b (g.s.d.crash n m) nT seg g.s.P (by decide) (by decide) hs hs1 nm1 (by omega) (hok.cr.ok.crash n m) (Nat.zero_le _)
        rw [e1] at hOp
        simp only [tpV_ok] at hOp
        have hCp := rCopy_spec rb g.s.rv.1 g.s.f seg g.s.all (by omega)
        have hfa : g.s.f ≤ g.s.all.length := by omega
        have hGD := fun gb gv => rDrop_spec gb gv g.s.f seg g.drop g.s.all (by omega) hok.dr hs (by omega) (by omega)
        have hrf := rDropF_eq hs g.drop (g.s.l.map Sm.s) g.s.f (nextS (g.s.l.map Sm.s)) hok.tw (by omega)
        rw [hnxl] at hrf
        rw [hrf] at hGD
        clear hrf
        have hmvw := hok.mvw
        have hmp := hok.mp
        have hma := hok.ma
        generalize dropK g.drop (g.s.l.map Sm.s) = K at *
        have hkK : seg * k ≤ seg * K := Nat.mul_le_mul_left seg hk1
        obtain ⟨⟨tb, vs, sl, d, f, all, ⟨rv, hrv⟩, P⟩, fault, more, ⟨mv, hmv⟩, drop⟩ := g
        dsimp only at e1 e2 e3 e4 hk2 hq1 hq2 sp1 sp2 hwB hal hml hspl hOp hCp hGD hmvw hmp hma hFa hRN hE hCr hfa ⊢
        have lm : (more.map strV).length = more.length := by simp
        have hwm : IntKind.u64.wrap ((more.map strV).length : Int) = ((more.map strV).length : Int) := tp_wrap64 _ (by omega)
        obtain ⟨pm, lenm, cm, rfl, hcm, hsm⟩ := hmp
        refine ok_learn (VwIn.slice (VwIn.there (VwIn.there (VwIn.there (VwIn.there (VwIn.here hmvw)))))) ?_
        rintro ⟨_, _, em⟩
        simp only [Value.slice.injEq] at em
        obtain ⟨rfl, rfl, rfl⟩ := em
        unfold crP
        dsimp only
        repeat' (first | (refine go_Y ?_; intros) | (refine gs_Y ?_ ?_ <;> (intro hgd; try (simp only [Bool.not_true, Bool.not_false] at hgd))) | (refine gc_Y ?_ ?_ <;> intro _) | fail)
        refine cl_Y (hCr) ?_
        intro _ _
        repeat' (first | (refine go_Y ?_; intros) | (refine gs_Y ?_ ?_ <;> (intro hgd; try (simp only [Bool.not_true, Bool.not_false] at hgd))) | (refine gc_Y ?_ ?_ <;> intro _) | fail)
        refine cl_Y (hOp) ?_
        rintro ⟨tb2, vs2, l2, P2⟩ ⟨k1, k2⟩
        obtain ⟨k3, k4⟩ := k2 trivial
        dsimp only at k1 k3 k4 ⊢
        repeat' (first | (refine go_Y ?_; intros) | (refine gs_Y ?_ ?_ <;> (intro hgd; try (simp only [Bool.not_true, Bool.not_false] at hgd))) | (refine gc_Y ?_ ?_ <;> intro _) | fail)
        refine cl_Y (hCp) ?_
        rintro ⟨gb, ⟨gv, hgv⟩⟩ _
        dsimp only
        repeat' (first | (refine go_Y ?_; intros) | (refine gs_Y ?_ ?_ <;> (intro hgd; try (simp only [Bool.not_true, Bool.not_false] at hgd))) | (refine gc_Y ?_ ?_ <;> intro _) | fail)
        refine cl_Y (hGD gb gv) ?_
        intro _ _
        have htw2 : Tw nT seg (f + seg * k) (l2.map Sm.s) := by rw [k4]; exact e3
        have hall2 : all ++ more.take j = all.take (f + seg * k) ++ allR (l2.map Sm.s) := by
          rw [k4, e4, ← sp1, ← List.append_assoc, List.take_append_drop]
        have htl : (all.take (f + seg * k)).length = f + seg * k := by rw [List.length_take]; omega
        have hpl2 : PlOk A seg ⟨tb2, vs2, l2, d', f + seg * k, all ++ more.take j, ⟨rv, hrv⟩, P2⟩ := ⟨hE.trans k1, k3, htw2, by show Firm d' (fsS (l2.map Sm.s)); rw [k4]; exact e2, ⟨_, hall2, htl⟩, by
          show wtL (all ++ more.take j) ≤ _
          rw [wtL_app]
          have hz : sumZ (more.take j) ≤ sumZ more := by
            have := congrArg sumZ (List.take_append_drop j more)
            rw [sumZ_app] at this
            omega
          unfold wtL at hwB ⊢
          rw [List.length_take]
          omega⟩
        obtain ⟨f1, _, f3, _, _, _, f7⟩ := hpl2.facts hs hs1
        have hF := tFirst_spec tb2 b nT (seg : Int) vs2 0 l2 P2 k3 (by dsimp only at f3; omega)
        rw [htw2.first] at hF
        dsimp only at f1 f3
        have htj : (all ++ more.take j).length = all.length + min j more.length := by rw [List.length_append, List.length_take]
        have hN := tNext_spec tb2 b nT (seg : Int) vs2 0 l2 P2 k3 (by omega) (by omega)
        rw [f1, htj] at hN
        have c1 : decide (((f + seg * k : Nat) : Int) < (f : Int)) = false := decide_eq_false (by omega)
        have c2 : decide (((f + seg * K : Nat) : Int) < ((f + seg * k : Nat) : Int)) = false := decide_eq_false (by omega)
        have c4 : decide (((all.length + min j more.length : Nat) : Int) < (all.length : Int)) = false := decide_eq_false (by omega)
        have hsub : IntKind.u64.wrap (arith BinOp.sub ((f + seg * k : Nat) : Int) (f : Int)) = ((seg * k : Nat) : Int) := by
          rw [show arith BinOp.sub ((f + seg * k : Nat) : Int) (f : Int) = ((seg * k : Nat) : Int) by show ((f + seg * k : Nat) : Int) - (f : Int) = _; omega]
          exact tp_wrap64 _ (by omega)
        have c3 : (!decide ((IntKind.u64.wrap (arith BinOp.sub ((f + seg * k : Nat) : Int) (f : Int))).tmod (seg : Int) = 0)) = false := by
          rw [hsub, decide_eq_true (tmod_nat (Nat.mul_mod_right seg k))]; rfl
        have hadd : IntKind.u64.wrap (arith BinOp.add (all.length : Int) ((more.map strV).length : Int)) = ((all.length + more.length : Nat) : Int) := by
          rw [lm]; exact tp_wrap64 (all.length + more.length) (by omega)
        have c5 : decide (IntKind.u64.wrap (arith BinOp.add (all.length : Int) ((more.map strV).length : Int)) < ((all.length + min j more.length : Nat) : Int)) = false := by
          rw [hadd]; exact decide_eq_false (by omega)
        repeat' (first | (refine go_Y ?_; intros) | (refine gs_Y ?_ ?_ <;> (intro hgd; try (simp only [Bool.not_true, Bool.not_false] at hgd))) | (refine gc_Y ?_ ?_ <;> intro _) | fail)
        refine ok_drawL (cv := []) [1, 9, 18, 38, 40] ([rtP rb rv f seg, rtP gb gv (f + seg * K) seg]) (takeD) (by kernel_rfl) rfl (by decide +kernel) ?_
        repeat' (first | (refine go_Y ?_; intros) | (refine gs_Y ?_ ?_ <;> (intro hgd; try (simp only [Bool.not_true, Bool.not_false] at hgd))) | (refine gc_Y ?_ ?_ <;> intro _) | fail)
        refine clN_Y (hF) ?_
        intro _ _
        repeat' (first | (refine go_Y ?_; intros) | (refine gs_Y ?_ ?_ <;> (intro hgd; try (simp only [Bool.not_true, Bool.not_false] at hgd))) | (refine gc_Y ?_ ?_ <;> intro _) | fail)
        refine clN_Y (hF) ?_
        intro _ _
        repeat' (first | (refine go_Y ?_; intros) | (refine gs_Y ?_ ?_ <;> (intro hgd; try (simp only [Bool.not_true, Bool.not_false] at hgd))) | (refine gc_Y ?_ ?_ <;> intro _) | fail)
        refine clN_Y (hF) ?_
        intro _ _
        repeat' (first | (refine go_Y ?_; intros) | (refine gs_Y ?_ ?_ <;> (intro hgd; try (simp only [Bool.not_true, Bool.not_false] at hgd))) | (refine gc_Y ?_ ?_ <;> intro _) | fail)
        refine cl_Y (hN) ?_
        intro _ _
        repeat' (first | (refine go_Y ?_; intros) | (refine gs_Y ?_ ?_ <;> (intro hgd; try (simp only [Bool.not_true, Bool.not_false] at hgd))) | (refine gc_Y ?_ ?_ <;> intro _) | fail)
        refine clW_Y ([]) (hRN) ?_
        intro _ _
        repeat' (first | (refine go_Y ?_; intros) | (refine gs_Y ?_ ?_ <;> (intro hgd; try (simp only [Bool.not_true, Bool.not_false] at hgd))) | (refine gc_Y ?_ ?_ <;> intro _) | fail)
        refine clN_Y (hN) ?_
        intro _ _
        repeat' (first | (refine go_Y ?_; intros) | (refine gs_Y ?_ ?_ <;> (intro hgd; try (simp only [Bool.not_true, Bool.not_false] at hgd))) | (refine gc_Y ?_ ?_ <;> intro _) | fail)
        refine clN_Y (hRN) ?_
        intro _ _
        repeat' (first | (refine go_Y ?_; intros) | (refine gs_Y ?_ ?_ <;> (intro hgd; try (simp only [Bool.not_true, Bool.not_false] at hgd))) | (refine gc_Y ?_ ?_ <;> intro _) | fail)
        refine cl_Y (hF) ?_
        intro _ _
        repeat' (first | (refine go_Y ?_; intros) | (refine gs_Y ?_ ?_ <;> (intro hgd; try (simp only [Bool.not_true, Bool.not_false] at hgd))) | (refine gc_Y ?_ ?_ <;> intro _) | fail)
        have hRN2 := rNext_spec rb rv (f + seg * k) seg all (by omega)
        refine cl_Y (hRN2) ?_
        intro _ _
        have hw2 : wtL (all ++ more.take j) ≤ wtS (xs.take i) := by
          rw [wtL_app]
          have hz : sumZ (more.take j) ≤ sumZ more := by
            have := congrArg sumZ (List.take_append_drop j more)
            rw [sumZ_app] at this
            omega
          unfold wtL at hwB ⊢
          rw [List.length_take]
          omega
        have hR2 := hRead_spec (b := b) hpl2 hs hs1 all.length (((more.map strV).length : Int) + 1)
        have hrl : rReadL (f + seg * k) (all ++ more.take j) all.length (((more.map strV).length : Int) + 1) = more.take j := by
          unfold rReadL
          rw [if_neg (by rw [htj]; omega), List.drop_left, List.take_of_length_le (by rw [List.length_take, lm]; omega)]
        have hre : rReadE (f + seg * k) (all ++ more.take j) all.length = 0 := by
          unfold rReadE
          rw [if_neg (by rw [htj]; omega)]
        dsimp only at hR2
        rw [hrl, hre] at hR2
        repeat' (first | (refine go_Y ?_; intros) | (refine gs_Y ?_ ?_ <;> (intro hgd; try (simp only [Bool.not_true, Bool.not_false] at hgd))) | (refine gc_Y ?_ ?_ <;> intro _) | fail)
        refine cl_Y (hR2) ?_
        rintro ⟨⟨vm, hvm⟩, P3⟩ g3
        dsimp only at g3 ⊢
        have hBg := begins18_spec vm (.slice pm (more.map strV).length cm) (rwS vm (more.take j)) P3 (more.take j) more Vw.row (g3.vw (k1.vw hmvw)) ⟨pm, _, cm, rfl, hcm, hsm⟩ (by rw [List.length_take]; omega)
        rw [begB_of (List.take_prefix j more)] at hBg
        repeat' (first | (refine go_Y ?_; intros) | (refine gs_Y ?_ ?_ <;> (intro hgd; try (simp only [Bool.not_true, Bool.not_false] at hgd))) | (refine gc_Y ?_ ?_ <;> intro _) | fail)
        refine cl_Y (hBg) ?_
        intro _ _
        have hRA := rAppend_spec rb rv vm (f + seg * k) seg all (more.take j) (rwS vm (more.take j)) (by omega) (by rw [List.length_take]; omega) Vw.row
        repeat' (first | (refine go_Y ?_; intros) | (refine gs_Y ?_ ?_ <;> (intro hgd; try (simp only [Bool.not_true, Bool.not_false] at hgd))) | (refine gc_Y ?_ ?_ <;> intro _) | fail)
        refine cl_Y (hRA) ?_
        rintro ⟨rv3, hrv3⟩ _
        have hpl3 : PlOk A seg ⟨tb2, vs2, l2, d', f + seg * k, all ++ more.take j, ⟨rv3, hrv3⟩, P3⟩ := by
          have := hpl2.grow g3
          exact ⟨this.ext, this.sg, this.tw, this.firm, this.pre, this.w⟩
        have hAll := All18_spec A b rb seg _ hpl3 hs hs1
        unfold plP at hAll
        dsimp only at hAll ⊢
        repeat' (first | (refine go_Y ?_; intros) | (refine gs_Y ?_ ?_ <;> (intro hgd; try (simp only [Bool.not_true, Bool.not_false] at hgd))) | (refine gc_Y ?_ ?_ <;> intro _) | fail)
        refine cl_Y (hAll) ?_
        intro P4 g4
        have hpl4 := hpl3.grow g4
        dsimp only at g4 hpl4 ⊢
        repeat' (first | (refine go_Y ?_; intros) | (refine gs_Y ?_ ?_ <;> (intro hgd; try (simp only [Bool.not_true, Bool.not_false] at hgd))) | (refine gc_Y ?_ ?_ <;> intro _) | fail)
        refine cont_map (L' := crP b rb seg ⟨⟨tb2, vs2, l2, d', f + seg * k, all ++ more.take j, ⟨rv3, hrv3⟩, P4⟩, 0, [], ⟨.slice none 0 0, rfl⟩, 0⟩ ++ R) entD ?_
        exact cont_back (i + 1, ⟨⟨tb2, vs2, l2, d', f + seg * k, all ++ more.take j, ⟨rv3, hrv3⟩, P4⟩, 0, [], ⟨.slice none 0 0, rfl⟩, 0⟩) ⟨h, PlOk.cr (B := wtS (xs.take (i + 1))) hpl4 hs (by show wtL (all ++ more.take j) ≤ _; omega) e6, ⟨rfl, rfl, rfl, rfl, rfl, rfl, rfl, rfl, trivial⟩, rfl⟩ (by dsimp only; omega)
      have n5 : decide (op = 5) = false := decide_eq_false o5
      repeat' (first | (refine go_Y ?_; intros) | (refine gs_Y ?_ ?_ <;> (intro hgd; try (simp only [Bool.not_true, Bool.not_false] at hgd))) | (refine gc_Y ?_ ?_ <;> intro _) | fail)
      refine cont_map (L' := crP b rb seg g ++ R) entD ?_
      exact cont_back (i + 1, g) ⟨h, hokm, ⟨rfl, rfl, rfl, rfl, rfl, rfl, rfl, rfl, trivial⟩, rfl⟩ (by dsimp only; omega)
end Go.Proofs.YtadgdikijdmceaaGreat
