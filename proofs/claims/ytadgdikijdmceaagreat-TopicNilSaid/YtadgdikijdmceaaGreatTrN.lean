import Derived.Test.YtadgdikijdmceaaGreatTrB
import Derived.Test.YtadgdikijdmceaaGreatRfD
set_option linter.unusedSimpArgs false
set_option linter.unusedVariables false
set_option maxRecDepth 100000
namespace Go.Proofs.YtadgdikijdmceaaGreat
open Go Go.Fx Go.Proofs Go.Pl

theorem name18_spec (s : BA) (hs : s.size ≤ 1000000) : FSpec Tryz.prog 14 [.string s] [] Unit (fun _ => True) (fun _ => .bool (mayN s && decide ((s.size : Int) ≤ 32))) (fun _ => []) := by
  have hN := refName_spec s (by omega)
  cases t1 : mayN s with
  | true =>
    rw [t1] at hN
    refine spec_intro [] _ Tryz.func14 rfl Tryz.ntmps14 (by rfl) (fun w0 R => ?_)
    repeat' (first | (refine go_Y ?_; intros) | (refine gs_Y ?_ ?_ <;> (intro hgd; try (simp only [Bool.not_true, Bool.not_false] at hgd))) | (refine gc_Y ?_ ?_ <;> intro _) | fail)
    refine cl_Y (hN) ?_
    intro _ _
    repeat' (first | (refine go_Y ?_; intros) | (refine gs_Y ?_ ?_ <;> (intro hgd; try (simp only [Bool.not_true, Bool.not_false] at hgd))) | (refine gc_Y ?_ ?_ <;> intro _) | fail)
    (refine rt_Y (y := ()) (hrs := Tryz.results14) (hv := ?_) (hφ := ?_))
    · rfl
    · trivial
  | false =>
    rw [t1] at hN
    refine spec_intro [] _ Tryz.func14 rfl Tryz.ntmps14 (by rfl) (fun w0 R => ?_)
    repeat' (first | (refine go_Y ?_; intros) | (refine gs_Y ?_ ?_ <;> (intro hgd; try (simp only [Bool.not_true, Bool.not_false] at hgd))) | (refine gc_Y ?_ ?_ <;> intro _) | fail)
    refine cl_Y (hN) ?_
    intro _ _
    repeat' (first | (refine go_Y ?_; intros) | (refine gs_Y ?_ ?_ <;> (intro hgd; try (simp only [Bool.not_true, Bool.not_false] at hgd))) | (refine gc_Y ?_ ?_ <;> intro _) | fail)
    (refine rt_Y (y := ()) (hrs := Tryz.results14) (hv := ?_) (hφ := ?_))
    · rfl
    · trivial
theorem open9_spec (b : Nat) (name : BA) (seg : Int) (A : HProp) (hz : name.size ≤ 100) :
    FSpec Tryz.prog 12 [.pointer (some ⟨b, 0, none⟩), .string name, .int .i64 seg] [diskP b (newD 9), A] (Nat × HProp) (fun y => Ext A y.2)
      (fun y => .tuple #[tpV y.1 (bif mayN name && decide ((name.size : Int) ≤ 32) && decide (1 ≤ seg) && decide (seg ≤ 65536) then 0 else 2), .int .i64 (bif mayN name && decide ((name.size : Int) ≤ 32) && decide (1 ≤ seg) && decide (seg ≤ 65536) then 0 else 2)]) (fun y => [y.2]) := by
  have hfn : Firm (newD 9) [] := Firm.new (by decide) (by decide)
  by_cases hb : name.size < 1 ∨ 32 < name.size ∨ seg < 1 ∨ 65536 < seg
  · have hc : (mayN name && decide ((name.size : Int) ≤ 32) && decide (1 ≤ seg) && decide (seg ≤ 65536)) = false := by
      rw [Bool.eq_false_iff]
      intro h
      simp only [Bool.and_eq_true, decide_eq_true_eq] at h
      have h1 : 1 ≤ name.size := by
        have := h.1.1.1
        unfold mayN at this
        simp only [Bool.and_eq_true, decide_eq_true_eq] at this
        exact this.1.2
      omega
    rw [hc]
    have := tOpen_bad b (newD 9) name seg hb
    intro w0 w R hsat
    refine (this w0 w (A :: R) hsat).mono ?_
    rintro e w' ⟨y, _, rfl, hs'⟩
    exact ⟨(0, A), .refl _, rfl, hs'.map fun _ k => k.tail⟩
  · obtain ⟨sg, rfl⟩ : ∃ sg : Nat, seg = sg := ⟨seg.toNat, by omega⟩
    have hO := tOpen_spec b (newD 9) name sg A (by omega) (by omega) (by omega) (by omega) (by simp [newD]) (by simp [newD]) (.new (by decide) (by decide)) (by simp [newD])
    have hc : (mayN name && decide ((name.size : Int) ≤ 32) && decide (1 ≤ (sg : Int)) && decide ((sg : Int) ≤ 65536)) = mayN name := by
      rw [decide_eq_true (show (name.size : Int) ≤ 32 by omega), decide_eq_true (show 1 ≤ (sg : Int) by omega), decide_eq_true (show (sg : Int) ≤ 65536 by omega)]
      simp
    rw [hc]
    have ht : (topenT (newD 9) name sg).2.1 = (bif mayN name then 0 else 2) := by
      cases hm : mayN name with
      | true => rw [topen_eq hm rfl, load_nil hfn]; rfl
      | false => rw [topen_bad hm rfl]; rfl
    rw [ht] at hO
    intro w0 w R hsat
    refine (hO w0 w R hsat).mono ?_
    rintro e w' ⟨⟨tb, v, l, P⟩, ⟨h1, _⟩, rfl, hs'⟩
    exact ⟨(tb, P), h1, rfl, hs'.map fun _ k => k.tail.tail⟩
theorem tpV_2 (t : Nat) : tpV t 2 = .pointer none := rfl
set_option maxHeartbeats 16000000 in
theorem TopicNil_spec (x : Ts) (name : BA) (seg : Int) (A : HProp) (hx : TsR A x) (hz : name.size ≤ 140737488355328) :
    FSpec Tryz.prog 3 [.agg (tsV x).toArray, .string name, .int .i64 seg] [A] HProp (fun P' => Ext A P') (fun _ => .bool true) (fun P' => [P']) := by
  have hx1 := hx.1
  have hH := fun (u : Value) (P : HProp) (g : Ext A P) (hu : Vw P 5 u ([x].map tsV)) => HeavyT_spec u P [x] hu (fun y hy => by
    obtain rfl := List.mem_singleton.1 hy
    exact ⟨g.vw hx.1, hx.2⟩)
  obtain ⟨op, l, ⟨v, hvc⟩, off, n, m⟩ := x
  dsimp only at hx1
  dsimp only [tsV] at hH ⊢
  have ll : (l.map strV).length = l.length := by simp
  refine fspec_lrnT (fun R hh g => (VwIn.slice (VwIn.here hx1)) hh g) ?_
  rintro ⟨px, cx, rfl⟩
  have alive := alive18_spec
  refine spec_intro [] _ Tryz.func3 rfl Tryz.ntmps3 (by rfl) (fun w0 R => ?_)
  repeat' (first | (refine go_Y ?_; intros) | (refine gs_Y ?_ ?_ <;> (intro hgd; try (simp only [Bool.not_true, Bool.not_false] at hgd))) | (refine gc_Y ?_ ?_ <;> intro _) | fail)
  rename_i bx w hw0
  refine ops_learn (rowShapeS (e := 25) (n := 5) (v := w) (xs := [[.int .i64 op, .slice px (l.map strV).length cx, .int .u64 (off : Int), .int .i64 n, .int .i64 m]]) (by decide) takeD) ?_
  rintro ⟨p2, c2, rfl, hc2, hp2⟩
  refine ops_poolN (ty := 25) (n := 5) (v := .slice p2 1 c2) (xs := [[.int .i64 op, .slice px (l.map strV).length cx, .int .u64 (off : Int), .int .i64 n, .int .i64 m]]) (P := A) takeD ?_
  intro P1 hE1 hv1
  refine cl_Y (hH (.slice p2 1 c2) P1 hE1 hv1) ?_
  intro y _
  cases y with
  | true =>
    repeat' (first | (refine go_Y ?_; intros) | (refine gs_Y ?_ ?_ <;> (intro hgd; try (simp only [Bool.not_true, Bool.not_false] at hgd))) | (refine gc_Y ?_ ?_ <;> intro _) | fail)
    refine cl_Y (alive) ?_
    intro _ _
    repeat' (first | (refine go_Y ?_; intros) | (refine gs_Y ?_ ?_ <;> (intro hgd; try (simp only [Bool.not_true, Bool.not_false] at hgd))) | (refine gc_Y ?_ ?_ <;> intro _) | fail)
    (refine rt_Y (y := P1) (hrs := Tryz.results3) (hv := ?_) (hφ := ?_))
    · rfl
    · exact hE1
  | false =>
    cases t1 : decide ((100 : Int) < (name.size : Int)) with
    | true =>
      repeat' (first | (refine go_Y ?_; intros) | (refine gs_Y ?_ ?_ <;> (intro hgd; try (simp only [Bool.not_true, Bool.not_false] at hgd))) | (refine gc_Y ?_ ?_ <;> intro _) | fail)
      refine cl_Y (alive) ?_
      intro _ _
      repeat' (first | (refine go_Y ?_; intros) | (refine gs_Y ?_ ?_ <;> (intro hgd; try (simp only [Bool.not_true, Bool.not_false] at hgd))) | (refine gc_Y ?_ ?_ <;> intro _) | fail)
      (refine rt_Y (y := P1) (hrs := Tryz.results3) (hv := ?_) (hφ := ?_))
      · rfl
      · exact hE1
    | false =>
      have hz1 : name.size ≤ 100 := by have := of_decide_eq_false t1; omega
      have hO := fun b => open9_spec b name seg P1 hz1
      have hNm := name18_spec name (by omega)
      have hA0 := tAppend_nil (.slice px (l.map strV).length cx)
      have hR0 := tRead_nil (off : Int) n
      have hO0 := tOpen_nil name seg
      have hD0 := tDrop_nil (off : Int)
      have hn9 := new_spec 9 (by decide) (by decide)
      generalize newD 9 = d9 at hO hn9
      have b1 : (false == false) = true := rfl
      have b2 : (true == true) = true := rfl
      have c5 : decide (((0 : Nat) : Int) = 0) = true := rfl
      cases a1 : (mayN name && decide ((name.size : Int) ≤ 32)) with
      | false =>
        rw [a1] at hO hNm
        simp only [Bool.false_and, cond_false, tpV_2] at hO
        repeat' (first | (refine go_Y ?_; intros) | (refine gs_Y ?_ ?_ <;> (intro hgd; try (simp only [Bool.not_true, Bool.not_false] at hgd))) | (refine gc_Y ?_ ?_ <;> intro _) | fail)
        refine cl_Y (hA0) ?_
        intro _ _
        repeat' (first | (refine go_Y ?_; intros) | (refine gs_Y ?_ ?_ <;> (intro hgd; try (simp only [Bool.not_true, Bool.not_false] at hgd))) | (refine gc_Y ?_ ?_ <;> intro _) | fail)
        refine cl_Y (hR0) ?_
        intro _ _
        repeat' (first | (refine go_Y ?_; intros) | (refine gs_Y ?_ ?_ <;> (intro hgd; try (simp only [Bool.not_true, Bool.not_false] at hgd))) | (refine gc_Y ?_ ?_ <;> intro _) | fail)
        refine cl_Y (hO0) ?_
        intro _ _
        repeat' (first | (refine go_Y ?_; intros) | (refine gs_Y ?_ ?_ <;> (intro hgd; try (simp only [Bool.not_true, Bool.not_false] at hgd))) | (refine gc_Y ?_ ?_ <;> intro _) | fail)
        refine cl_Y (hn9) ?_
        intro b _
        repeat' (first | (refine go_Y ?_; intros) | (refine gs_Y ?_ ?_ <;> (intro hgd; try (simp only [Bool.not_true, Bool.not_false] at hgd))) | (refine gc_Y ?_ ?_ <;> intro _) | fail)
        refine cl_Y (hO b) ?_
        rintro ⟨tb, P2⟩ g2
        dsimp only at g2 ⊢
        repeat' (first | (refine go_Y ?_; intros) | (refine gs_Y ?_ ?_ <;> (intro hgd; try (simp only [Bool.not_true, Bool.not_false] at hgd))) | (refine gc_Y ?_ ?_ <;> intro _) | fail)
        refine cl_Y (hNm) ?_
        intro _ _
        repeat' (first | (refine go_Y ?_; intros) | (refine gs_Y ?_ ?_ <;> (intro hgd; try (simp only [Bool.not_true, Bool.not_false] at hgd))) | (refine gc_Y ?_ ?_ <;> intro _) | fail)
        refine cl_Y (hD0) ?_
        intro _ _
        repeat' (first | (refine go_Y ?_; intros) | (refine gs_Y ?_ ?_ <;> (intro hgd; try (simp only [Bool.not_true, Bool.not_false] at hgd))) | (refine gc_Y ?_ ?_ <;> intro _) | fail)
        refine cl_Y (tFirst_nil) ?_
        intro _ _
        repeat' (first | (refine go_Y ?_; intros) | (refine gs_Y ?_ ?_ <;> (intro hgd; try (simp only [Bool.not_true, Bool.not_false] at hgd))) | (refine gc_Y ?_ ?_ <;> intro _) | fail)
        refine cl_Y (tNext_nil) ?_
        intro _ _
        repeat' (first | (refine go_Y ?_; intros) | (refine gs_Y ?_ ?_ <;> (intro hgd; try (simp only [Bool.not_true, Bool.not_false] at hgd))) | (refine gc_Y ?_ ?_ <;> intro _) | fail)
        refine cl_Y (tFault_nil) ?_
        intro _ _
        repeat' (first | (refine go_Y ?_; intros) | (refine gs_Y ?_ ?_ <;> (intro hgd; try (simp only [Bool.not_true, Bool.not_false] at hgd))) | (refine gc_Y ?_ ?_ <;> intro _) | fail)
        refine cl_Y (alive) ?_
        intro _ _
        repeat' (first | (refine go_Y ?_; intros) | (refine gs_Y ?_ ?_ <;> (intro hgd; try (simp only [Bool.not_true, Bool.not_false] at hgd))) | (refine gc_Y ?_ ?_ <;> intro _) | fail)
        (refine rt_Y (y := P2) (hrs := Tryz.results3) (hv := ?_) (hφ := ?_))
        · rfl
        · exact hE1.trans g2
      | true =>
        rw [a1] at hO hNm
        cases a2 : decide (seg < 1) with
        | true =>
          have a3 : decide (1 ≤ seg) = false := decide_eq_false (by have := of_decide_eq_true a2; omega)
          rw [a3] at hO
          simp only [Bool.true_and, Bool.false_and, cond_false, tpV_2] at hO
          repeat' (first | (refine go_Y ?_; intros) | (refine gs_Y ?_ ?_ <;> (intro hgd; try (simp only [Bool.not_true, Bool.not_false] at hgd))) | (refine gc_Y ?_ ?_ <;> intro _) | fail)
          refine cl_Y (hA0) ?_
          intro _ _
          repeat' (first | (refine go_Y ?_; intros) | (refine gs_Y ?_ ?_ <;> (intro hgd; try (simp only [Bool.not_true, Bool.not_false] at hgd))) | (refine gc_Y ?_ ?_ <;> intro _) | fail)
          refine cl_Y (hR0) ?_
          intro _ _
          repeat' (first | (refine go_Y ?_; intros) | (refine gs_Y ?_ ?_ <;> (intro hgd; try (simp only [Bool.not_true, Bool.not_false] at hgd))) | (refine gc_Y ?_ ?_ <;> intro _) | fail)
          refine cl_Y (hO0) ?_
          intro _ _
          repeat' (first | (refine go_Y ?_; intros) | (refine gs_Y ?_ ?_ <;> (intro hgd; try (simp only [Bool.not_true, Bool.not_false] at hgd))) | (refine gc_Y ?_ ?_ <;> intro _) | fail)
          refine cl_Y (hn9) ?_
          intro b _
          repeat' (first | (refine go_Y ?_; intros) | (refine gs_Y ?_ ?_ <;> (intro hgd; try (simp only [Bool.not_true, Bool.not_false] at hgd))) | (refine gc_Y ?_ ?_ <;> intro _) | fail)
          refine cl_Y (hO b) ?_
          rintro ⟨tb, P2⟩ g2
          dsimp only at g2 ⊢
          repeat' (first | (refine go_Y ?_; intros) | (refine gs_Y ?_ ?_ <;> (intro hgd; try (simp only [Bool.not_true, Bool.not_false] at hgd))) | (refine gc_Y ?_ ?_ <;> intro _) | fail)
          refine cl_Y (hNm) ?_
          intro _ _
          repeat' (first | (refine go_Y ?_; intros) | (refine gs_Y ?_ ?_ <;> (intro hgd; try (simp only [Bool.not_true, Bool.not_false] at hgd))) | (refine gc_Y ?_ ?_ <;> intro _) | fail)
          refine cl_Y (hD0) ?_
          intro _ _
          repeat' (first | (refine go_Y ?_; intros) | (refine gs_Y ?_ ?_ <;> (intro hgd; try (simp only [Bool.not_true, Bool.not_false] at hgd))) | (refine gc_Y ?_ ?_ <;> intro _) | fail)
          refine cl_Y (tFirst_nil) ?_
          intro _ _
          repeat' (first | (refine go_Y ?_; intros) | (refine gs_Y ?_ ?_ <;> (intro hgd; try (simp only [Bool.not_true, Bool.not_false] at hgd))) | (refine gc_Y ?_ ?_ <;> intro _) | fail)
          refine cl_Y (tNext_nil) ?_
          intro _ _
          repeat' (first | (refine go_Y ?_; intros) | (refine gs_Y ?_ ?_ <;> (intro hgd; try (simp only [Bool.not_true, Bool.not_false] at hgd))) | (refine gc_Y ?_ ?_ <;> intro _) | fail)
          refine cl_Y (tFault_nil) ?_
          intro _ _
          repeat' (first | (refine go_Y ?_; intros) | (refine gs_Y ?_ ?_ <;> (intro hgd; try (simp only [Bool.not_true, Bool.not_false] at hgd))) | (refine gc_Y ?_ ?_ <;> intro _) | fail)
          refine cl_Y (alive) ?_
          intro _ _
          repeat' (first | (refine go_Y ?_; intros) | (refine gs_Y ?_ ?_ <;> (intro hgd; try (simp only [Bool.not_true, Bool.not_false] at hgd))) | (refine gc_Y ?_ ?_ <;> intro _) | fail)
          (refine rt_Y (y := P2) (hrs := Tryz.results3) (hv := ?_) (hφ := ?_))
          · rfl
          · exact hE1.trans g2
        | false =>
          have a3 : decide (1 ≤ seg) = true := decide_eq_true (by have := of_decide_eq_false a2; omega)
          cases a4 : decide (65536 < seg) with
          | true =>
            have a5 : decide (seg ≤ 65536) = false := decide_eq_false (by have := of_decide_eq_true a4; omega)
            rw [a3, a5] at hO
            simp only [Bool.true_and, Bool.and_false, cond_false, tpV_2] at hO
            repeat' (first | (refine go_Y ?_; intros) | (refine gs_Y ?_ ?_ <;> (intro hgd; try (simp only [Bool.not_true, Bool.not_false] at hgd))) | (refine gc_Y ?_ ?_ <;> intro _) | fail)
            refine cl_Y (hA0) ?_
            intro _ _
            repeat' (first | (refine go_Y ?_; intros) | (refine gs_Y ?_ ?_ <;> (intro hgd; try (simp only [Bool.not_true, Bool.not_false] at hgd))) | (refine gc_Y ?_ ?_ <;> intro _) | fail)
            refine cl_Y (hR0) ?_
            intro _ _
            repeat' (first | (refine go_Y ?_; intros) | (refine gs_Y ?_ ?_ <;> (intro hgd; try (simp only [Bool.not_true, Bool.not_false] at hgd))) | (refine gc_Y ?_ ?_ <;> intro _) | fail)
            refine cl_Y (hO0) ?_
            intro _ _
            repeat' (first | (refine go_Y ?_; intros) | (refine gs_Y ?_ ?_ <;> (intro hgd; try (simp only [Bool.not_true, Bool.not_false] at hgd))) | (refine gc_Y ?_ ?_ <;> intro _) | fail)
            refine cl_Y (hn9) ?_
            intro b _
            repeat' (first | (refine go_Y ?_; intros) | (refine gs_Y ?_ ?_ <;> (intro hgd; try (simp only [Bool.not_true, Bool.not_false] at hgd))) | (refine gc_Y ?_ ?_ <;> intro _) | fail)
            refine cl_Y (hO b) ?_
            rintro ⟨tb, P2⟩ g2
            dsimp only at g2 ⊢
            repeat' (first | (refine go_Y ?_; intros) | (refine gs_Y ?_ ?_ <;> (intro hgd; try (simp only [Bool.not_true, Bool.not_false] at hgd))) | (refine gc_Y ?_ ?_ <;> intro _) | fail)
            refine cl_Y (hNm) ?_
            intro _ _
            repeat' (first | (refine go_Y ?_; intros) | (refine gs_Y ?_ ?_ <;> (intro hgd; try (simp only [Bool.not_true, Bool.not_false] at hgd))) | (refine gc_Y ?_ ?_ <;> intro _) | fail)
            refine cl_Y (hD0) ?_
            intro _ _
            repeat' (first | (refine go_Y ?_; intros) | (refine gs_Y ?_ ?_ <;> (intro hgd; try (simp only [Bool.not_true, Bool.not_false] at hgd))) | (refine gc_Y ?_ ?_ <;> intro _) | fail)
            refine cl_Y (tFirst_nil) ?_
            intro _ _
            repeat' (first | (refine go_Y ?_; intros) | (refine gs_Y ?_ ?_ <;> (intro hgd; try (simp only [Bool.not_true, Bool.not_false] at hgd))) | (refine gc_Y ?_ ?_ <;> intro _) | fail)
            refine cl_Y (tNext_nil) ?_
            intro _ _
            repeat' (first | (refine go_Y ?_; intros) | (refine gs_Y ?_ ?_ <;> (intro hgd; try (simp only [Bool.not_true, Bool.not_false] at hgd))) | (refine gc_Y ?_ ?_ <;> intro _) | fail)
            refine cl_Y (tFault_nil) ?_
            intro _ _
            repeat' (first | (refine go_Y ?_; intros) | (refine gs_Y ?_ ?_ <;> (intro hgd; try (simp only [Bool.not_true, Bool.not_false] at hgd))) | (refine gc_Y ?_ ?_ <;> intro _) | fail)
            refine cl_Y (alive) ?_
            intro _ _
            repeat' (first | (refine go_Y ?_; intros) | (refine gs_Y ?_ ?_ <;> (intro hgd; try (simp only [Bool.not_true, Bool.not_false] at hgd))) | (refine gc_Y ?_ ?_ <;> intro _) | fail)
            (refine rt_Y (y := P2) (hrs := Tryz.results3) (hv := ?_) (hφ := ?_))
            · rfl
            · exact hE1.trans g2
          | false =>
            have a5 : decide (seg ≤ 65536) = true := decide_eq_true (by have := of_decide_eq_false a4; omega)
            rw [a3, a5] at hO
            simp only [Bool.true_and, Bool.and_true, cond_true, tpV_ok] at hO
            repeat' (first | (refine go_Y ?_; intros) | (refine gs_Y ?_ ?_ <;> (intro hgd; try (simp only [Bool.not_true, Bool.not_false] at hgd))) | (refine gc_Y ?_ ?_ <;> intro _) | fail)
            refine cl_Y (hA0) ?_
            intro _ _
            repeat' (first | (refine go_Y ?_; intros) | (refine gs_Y ?_ ?_ <;> (intro hgd; try (simp only [Bool.not_true, Bool.not_false] at hgd))) | (refine gc_Y ?_ ?_ <;> intro _) | fail)
            refine cl_Y (hR0) ?_
            intro _ _
            repeat' (first | (refine go_Y ?_; intros) | (refine gs_Y ?_ ?_ <;> (intro hgd; try (simp only [Bool.not_true, Bool.not_false] at hgd))) | (refine gc_Y ?_ ?_ <;> intro _) | fail)
            refine cl_Y (hO0) ?_
            intro _ _
            repeat' (first | (refine go_Y ?_; intros) | (refine gs_Y ?_ ?_ <;> (intro hgd; try (simp only [Bool.not_true, Bool.not_false] at hgd))) | (refine gc_Y ?_ ?_ <;> intro _) | fail)
            refine cl_Y (hn9) ?_
            intro b _
            repeat' (first | (refine go_Y ?_; intros) | (refine gs_Y ?_ ?_ <;> (intro hgd; try (simp only [Bool.not_true, Bool.not_false] at hgd))) | (refine gc_Y ?_ ?_ <;> intro _) | fail)
            refine cl_Y (hO b) ?_
            rintro ⟨tb, P2⟩ g2
            dsimp only at g2 ⊢
            repeat' (first | (refine go_Y ?_; intros) | (refine gs_Y ?_ ?_ <;> (intro hgd; try (simp only [Bool.not_true, Bool.not_false] at hgd))) | (refine gc_Y ?_ ?_ <;> intro _) | fail)
            refine cl_Y (hNm) ?_
            intro _ _
            repeat' (first | (refine go_Y ?_; intros) | (refine gs_Y ?_ ?_ <;> (intro hgd; try (simp only [Bool.not_true, Bool.not_false] at hgd))) | (refine gc_Y ?_ ?_ <;> intro _) | fail)
            refine cl_Y (hD0) ?_
            intro _ _
            repeat' (first | (refine go_Y ?_; intros) | (refine gs_Y ?_ ?_ <;> (intro hgd; try (simp only [Bool.not_true, Bool.not_false] at hgd))) | (refine gc_Y ?_ ?_ <;> intro _) | fail)
            refine cl_Y (tFirst_nil) ?_
            intro _ _
            repeat' (first | (refine go_Y ?_; intros) | (refine gs_Y ?_ ?_ <;> (intro hgd; try (simp only [Bool.not_true, Bool.not_false] at hgd))) | (refine gc_Y ?_ ?_ <;> intro _) | fail)
            refine cl_Y (tNext_nil) ?_
            intro _ _
            repeat' (first | (refine go_Y ?_; intros) | (refine gs_Y ?_ ?_ <;> (intro hgd; try (simp only [Bool.not_true, Bool.not_false] at hgd))) | (refine gc_Y ?_ ?_ <;> intro _) | fail)
            refine cl_Y (tFault_nil) ?_
            intro _ _
            repeat' (first | (refine go_Y ?_; intros) | (refine gs_Y ?_ ?_ <;> (intro hgd; try (simp only [Bool.not_true, Bool.not_false] at hgd))) | (refine gc_Y ?_ ?_ <;> intro _) | fail)
            refine cl_Y (alive) ?_
            intro _ _
            repeat' (first | (refine go_Y ?_; intros) | (refine gs_Y ?_ ?_ <;> (intro hgd; try (simp only [Bool.not_true, Bool.not_false] at hgd))) | (refine gc_Y ?_ ?_ <;> intro _) | fail)
            (refine rt_Y (y := P2) (hrs := Tryz.results3) (hv := ?_) (hφ := ?_))
            · rfl
            · exact hE1.trans g2
end Go.Proofs.YtadgdikijdmceaaGreat
