import Derived.Test.YtadgdikijdmceaaGreatTqY
set_option linter.unusedSimpArgs false
set_option linter.unusedVariables false
set_option maxRecDepth 100000
namespace Go.Proofs.YtadgdikijdmceaaGreat
open Go Go.Fx Go.Proofs Go.Pl

theorem Tw.zero {name : BA} {seg f : Nat} {l : List Sg} (h : Tw name seg f l) (e : allR l = []) : f = 0 := by
  rcases h.sq with ⟨_, h⟩ | ⟨l0, x, rfl, _, hx⟩
  · exact h
  · rw [allR_app, allR_one] at e
    exact absurd (List.append_eq_nil_iff.1 e).2 hx
theorem Firm.crash {d : Dk} {F : FS} (h : Firm d F) (keep torn : Int) : Firm (d.crash keep torn) F := ⟨h.ok.crash keep torn, rfl, rfl, by
  show FEq (d.torn _ torn) F
  rw [torn_none h.loose, h.sure]; exact h.eq⟩
theorem reopen {seg f : Nat} {l : List Sg} {d : Dk} (hs : 1 ≤ seg) (h : Tw nT seg f l) (hd : Firm d (fsS l)) (hfu : d.fuse = -1) : ∃ d' l', topenT d nT seg = (d', 0, l') ∧ Firm d' (fsS l') ∧ Tw nT seg f l' ∧ allR l' = allR l ∧ d'.fuse = -1 ∧ d'.room = d.room := by
  rw [topen_eq may_nT hd.still]
  exact load_torn may_nT (by decide) hs h.mod h.zero h.ok (torn_nrm hs h.sqm h.zero (by rw [h.nrm hs]; exact hd.eq)) hd.ok hd.still hd.loose hfu
theorem Firm.new {room : Int} (h0 : 0 ≤ room) (h1 : room ≤ 16777216) : Firm (newD room) [] := ⟨.new h0 h1, rfl, rfl, .refl _⟩
theorem Firm.room {d : Dk} {F : FS} (h : Firm d F) (n : Int) : Firm (roomD d n) F ∧ (roomD d n).fuse = d.fuse := by
  have ho := roomD_ok h.ok n
  unfold roomD at ho ⊢
  split
  · exact ⟨h, rfl⟩
  · rename_i h1
    rw [if_neg h1] at ho
    exact ⟨⟨ho, h.still, h.loose, h.eq⟩, rfl⟩
theorem open_new18 {seg : Nat} {room : Int} (h0 : 0 ≤ room) (h1 : room ≤ 16777216) : topenT (newD room) nT seg = (newD room, 0, []) := by
  rw [topen_eq may_nT rfl]
  exact load_nil (.new h0 h1)
theorem tpV_ok (t : Nat) : tpV t 0 = .pointer (some ⟨t, 0, none⟩) := rfl
abbrev PlI (A : HProp) (seg : Nat) (xs : List Ts) (full : Bool) (i : Nat) (s : PlS) : Prop := PlOk A seg s ∧ s.d.fuse = -1 ∧ wtL s.all ≤ wtS (xs.take i) ∧ (full = true ∨ s.d.room = 1048576)
set_option maxHeartbeats 32000000 in
theorem plays_spec (room : Int) (seg : Nat) (u : Value) (full : Bool) (A : HProp) (xs : List Ts) (hA : Vw A 5 u (xs.map tsV)) (hv : ∀ x ∈ xs, Vw A 1 x.v.1 (x.l.map strV)) (hs : 1 ≤ seg) (hs1 : seg ≤ 65536) (hr0 : 0 ≤ room) (hr1 : room ≤ 16777216) (hrf : full = true ∨ room = 1048576)
    (hx1 : xs.length ≤ 80) (hx2 : wtS xs ≤ 16384) (hx3 : ∀ x ∈ xs, x.l.length ≤ 200 ∧ sumZ x.l ≤ 32768) :
    FSpec Tryz.prog 32 [.int .i64 room, .int .i64 (seg : Int), u, .bool full] [A] HProp (fun P => Ext A P) (fun _ => .bool true) (fun P => [P]) := by
  have hlen : (xs.map tsV).length = xs.length := by simp
  have hws : IntKind.u64.wrap (seg : Int) = (seg : Int) := tp_wrap64 _ (by omega)
  have hn := new_spec room hr0 hr1
  have hO := fun b => tOpen_spec b (newD room) nT seg A (by decide) (by decide) hs hs1 (by simp [newD]) (by simp [newD]) (.new hr0 hr1) (by simp [newD])
  rw [open_new18 hr0 hr1] at hO
  simp only [tpV_ok] at hO
  have hfn := Firm.new hr0 hr1
  have hfu0 : (newD room).fuse = -1 := rfl
  have hro0 : (newD room).room = room := rfl
  generalize newD room = d0 at hn hO hfn hfu0 hro0
  refine spec_intro [] _ Tryz.func32 rfl Tryz.ntmps32 (by rfl) (fun w0 R => ?_)
  refine ok_learn (VwIn.slice (VwIn.here hA)) ?_
  rintro ⟨pu, cu, rfl⟩
  refine ok_map (fun _ h => nilRow (e := 9) (n := 1) h) ?_
  repeat' (first | (refine go_Y ?_; intros) | (refine gs_Y ?_ ?_ <;> (intro hgd; try (simp only [Bool.not_true, Bool.not_false] at hgd))) | (refine gc_Y ?_ ?_ <;> intro _) | fail)
  refine cl_Y (hn) ?_
  intro b _
  repeat' (first | (refine go_Y ?_; intros) | (refine gs_Y ?_ ?_ <;> (intro hgd; try (simp only [Bool.not_true, Bool.not_false] at hgd))) | (refine gc_Y ?_ ?_ <;> intro _) | fail)
  refine cl_Y (hO b) ?_
  rintro ⟨tb, vs, l0, P0⟩ ⟨g0, g1⟩
  obtain ⟨g1, g2⟩ := g1 trivial
  dsimp only at g0 g1 g2 ⊢
  obtain rfl : l0 = [] := List.map_eq_nil_iff.1 g2
  repeat' (first | (refine go_Y ?_; intros) | (refine gs_Y ?_ ?_ <;> (intro hgd; try (simp only [Bool.not_true, Bool.not_false] at hgd))) | (refine gc_Y ?_ ?_ <;> intro _) | fail)
  rename_i rb
  have hok0 : PlOk A seg ⟨tb, vs, [], d0, 0, [], ⟨.slice none 0 0, rfl⟩, P0⟩ := ⟨g0, g1, ⟨Nat.zero_mod _, rfl, .inl ⟨rfl, rfl⟩⟩, hfn, ⟨[], rfl, rfl⟩, by show wtL [] ≤ _; decide⟩
  refine ok_map (L' := plP b rb seg ⟨tb, vs, [], d0, 0, [], ⟨.slice none 0 0, rfl⟩, P0⟩ ++ R) entD ?_
  refine ok_loop' (γ := Nat × PlS) (fun g ρ L => g.1 ≤ xs.length ∧ PlI A seg xs full g.1 g.2 ∧ Knows ρ [(0, .int .i64 room), (1, .int .i64 (seg : Int)), (2, .slice pu (xs.map tsV).length cu), (3, .bool full), (9, .pointer (some ⟨b, 0, none⟩)), (11, .pointer (some ⟨g.2.tb, 0, none⟩)), (13, .pointer (some ⟨rb, 0, none⟩)), (14, .int .i64 g.1)] ∧ L = plP b rb seg g.2 ++ R) (fun g => xs.length - g.1)
    (0, ⟨tb, vs, [], d0, 0, [], ⟨.slice none 0 0, rfl⟩, P0⟩) ⟨Nat.zero_le _, ⟨hok0, hfu0, by show wtL [] ≤ _; exact Nat.zero_le _, hrf.imp id (fun h => by show d0.room = _; rw [hro0, h])⟩, ⟨rfl, rfl, rfl, rfl, rfl, rfl, rfl, rfl, trivial⟩, rfl⟩ ?_
  rintro ⟨i, s⟩ ρ L ⟨hi, ⟨hok, hfu, hwt, hro⟩, hk, rfl⟩
  dsimp only at hi hok hfu hwt hro hk ⊢
  refine ok_regs hk ?_
  have hE := hok.ext
  cases t1 : decide ((i : Int) < ((xs.map tsV).length : Int)) with
  | false =>
    have hAl := All18_spec A b rb seg s hok hs hs1
    repeat' (first | (refine go_Y ?_; intros) | (refine gs_Y ?_ ?_ <;> (intro hgd; try (simp only [Bool.not_true, Bool.not_false] at hgd))) | (refine gc_Y ?_ ?_ <;> intro _) | fail)
    refine cl_Y (hAl) ?_
    intro P1 k1
    repeat' (first | (refine go_Y ?_; intros) | (refine gs_Y ?_ ?_ <;> (intro hgd; try (simp only [Bool.not_true, Bool.not_false] at hgd))) | (refine gc_Y ?_ ?_ <;> intro _) | fail)
    (refine rt_Y (y := P1) (hrs := Tryz.results32) (hv := ?_) (hφ := ?_))
    · rfl
    · exact hE.trans k1
  | true =>
    have h : i < xs.length := by have := of_decide_eq_true t1; omega
    have hn1 : i < (xs.map tsV).length := by omega
    have hx : (xs.map tsV)[i]? = some (tsV xs[i]) := by rw [List.getElem?_map, List.getElem?_eq_getElem h]; rfl
    have hwi := wtS_take h
    have hwm : wtS (xs.take (i + 1)) ≤ wtS xs := by
      unfold wtS
      have := congrArg (fun l : List Ts => (l.map fun x => wtL x.l).sum) (List.take_append_drop (i + 1) xs)
      rw [List.map_append, List.sum_append] at this
      omega
    have hvx := hE.vw (hv _ (List.getElem_mem h))
    obtain ⟨hz1, hz2⟩ := hx3 _ (List.getElem_mem h)
    have hAP := hE.vw hA
    refine ok_learn (VwIn.base (n := 5) (p := pu) (len := (xs.map tsV).length) (cap := cu) (xs := xs.map tsV) (VwIn.there (VwIn.there (VwIn.there (VwIn.there (VwIn.here hAP))))) (by intro e; rw [e] at hn1; simp at hn1)) ?_
    rintro ⟨bu, ou, rfl⟩
    generalize xs[i] = x at hx hwi hvx hz1 hz2
    have hst0 := step0_spec A b rb seg s x full hok hs hs1 hfu hvx hz2 (by omega) (hro.imp id (fun h => by rw [h]; decide))
    have hst1 := step1_spec A b rb seg s x full hok hs hs1 hfu
    have hst2 := step2_spec A b rb seg s x full hok hs hs1 hfu
    obtain ⟨op, l, ⟨v, hvc⟩, off, n, m⟩ := x
    dsimp only at hx hwi hvx hz1 hz2 hst0 hst1 hst2
    unfold StepR at hst0 hst1 hst2
    dsimp only [tsV] at hx hst0 hst1 hst2
    refine ok_seq (ok_seq (ok_region ?_))
    repeat' (first | (refine ro_Y ?_; intros) | fail)
    refine cont_then (ok_cond_true ?_ (ok_skip (cont_then ?_)))
    · ((conv => lhs; whnf); first | done | with_reducible rfl | (refine congrArg Value.bool ?_; with_reducible assumption))
    refine ok_seq (ok_block (ok_seq (ok_region ?_)))
    repeat' (first | (refine ro_Y ?_; intros) | fail)
    rename_i bx
    refine cont_then ?_
    refine ok_meet (γ := PlS) (fun g ρ L => PlI A seg xs full (i + 1) g ∧ Knows ρ [(0, .int .i64 room), (1, .int .i64 (seg : Int)), (2, .slice (some ⟨bu, ou, none⟩) (xs.map tsV).length cu), (3, .bool full), (9, .pointer (some ⟨b, 0, none⟩)), (11, .pointer (some ⟨g.tb, 0, none⟩)), (13, .pointer (some ⟨rb, 0, none⟩)), (14, .int .i64 i)] ∧ L = plP b rb seg g ++ R) ?_ ?_
    · by_cases o0 : op = 0
      · subst o0
        repeat' (first | (refine go_Y ?_; intros) | (refine gs_Y ?_ ?_ <;> (intro hgd; try (simp only [Bool.not_true, Bool.not_false] at hgd))) | (refine gc_Y ?_ ?_ <;> intro _) | fail)
        refine cl_Y (hst0 rfl) ?_
        rintro s' ⟨q1, q2, q3, q4, q5, q6⟩
        rw [← q4]
        repeat' (first | (refine go_Y ?_; intros) | (refine gs_Y ?_ ?_ <;> (intro hgd; try (simp only [Bool.not_true, Bool.not_false] at hgd))) | (refine gc_Y ?_ ?_ <;> intro _) | fail)
        exact cont_map (L' := plP b rb seg s' ++ R) entD (cont_meet s' ⟨⟨q1, q2, by rw [hwi]; omega, hro.imp id (fun h => by rw [q3, h])⟩, ⟨rfl, rfl, rfl, rfl, rfl, rfl, rfl, rfl, trivial⟩, rfl⟩)
      by_cases o1 : op = 1
      · subst o1
        repeat' (first | (refine go_Y ?_; intros) | (refine gs_Y ?_ ?_ <;> (intro hgd; try (simp only [Bool.not_true, Bool.not_false] at hgd))) | (refine gc_Y ?_ ?_ <;> intro _) | fail)
        refine cl_Y (hst1 rfl) ?_
        rintro s' ⟨q1, q2, q3, q4, q5, q6⟩
        rw [← q4]
        repeat' (first | (refine go_Y ?_; intros) | (refine gs_Y ?_ ?_ <;> (intro hgd; try (simp only [Bool.not_true, Bool.not_false] at hgd))) | (refine gc_Y ?_ ?_ <;> intro _) | fail)
        exact cont_map (L' := plP b rb seg s' ++ R) entD (cont_meet s' ⟨⟨q1, q2, by rw [hwi]; omega, hro.imp id (fun h => by rw [q3, h])⟩, ⟨rfl, rfl, rfl, rfl, rfl, rfl, rfl, rfl, trivial⟩, rfl⟩)
      by_cases o2 : op = 2
      · subst o2
        repeat' (first | (refine go_Y ?_; intros) | (refine gs_Y ?_ ?_ <;> (intro hgd; try (simp only [Bool.not_true, Bool.not_false] at hgd))) | (refine gc_Y ?_ ?_ <;> intro _) | fail)
        refine cl_Y (hst2 rfl) ?_
        rintro s' ⟨q1, q2, q3, q4, q5, q6⟩
        rw [← q4]
        repeat' (first | (refine go_Y ?_; intros) | (refine gs_Y ?_ ?_ <;> (intro hgd; try (simp only [Bool.not_true, Bool.not_false] at hgd))) | (refine gc_Y ?_ ?_ <;> intro _) | fail)
        exact cont_map (L' := plP b rb seg s' ++ R) entD (cont_meet s' ⟨⟨q1, q2, by rw [hwi]; omega, hro.imp id (fun h => by rw [q3, h])⟩, ⟨rfl, rfl, rfl, rfl, rfl, rfl, rfl, rfl, trivial⟩, rfl⟩)
      have n0 : decide (op = 0) = false := decide_eq_false o0
      have n1 : decide (op = 1) = false := decide_eq_false o1
      have n2 : decide (op = 2) = false := decide_eq_false o2
      by_cases o3 : op = 3
      · subst o3
        have hFi := hok.firm
        have hFn := hFi.names may_nT (by decide) hs hok.tw
        obtain ⟨f1, f2, f3, f4, f5, f6, f7⟩ := hok.facts hs hs1
        obtain ⟨q, hq1, hq2⟩ := hok.pre
        obtain ⟨d', l', e1, e2, e3, e4, e5, e6⟩ := reopen hs hok.tw hFi hfu
        have hOp := tOpen_spec b s.d nT seg s.P (by decide) (by decide) hs hs1 hFn.1 (by rw [hFn.2, List.length_map]; omega) hFi.ok (by rw [hFi.loose]; exact Nat.zero_le _)
        rw [e1] at hOp
        simp only [tpV_ok] at hOp
        repeat' (first | (refine go_Y ?_; intros) | (refine gs_Y ?_ ?_ <;> (intro hgd; try (simp only [Bool.not_true, Bool.not_false] at hgd))) | (refine gc_Y ?_ ?_ <;> intro _) | fail)
        refine cl_Y (hOp) ?_
        rintro ⟨tb', vs', l'', P'⟩ ⟨k1, k2⟩
        obtain ⟨k3, k4⟩ := k2 trivial
        dsimp only at k1 k3 k4 ⊢
        repeat' (first | (refine go_Y ?_; intros) | (refine gs_Y ?_ ?_ <;> (intro hgd; try (simp only [Bool.not_true, Bool.not_false] at hgd))) | (refine gc_Y ?_ ?_ <;> intro _) | fail)
        exact cont_map (L' := plP b rb seg ⟨tb', vs', l'', d', s.f, s.all, s.rv, P'⟩ ++ R) entD (cont_meet ⟨tb', vs', l'', d', s.f, s.all, s.rv, P'⟩ ⟨⟨⟨hE.trans k1, k3, by show Tw nT seg s.f (l''.map Sm.s); rw [k4]; exact e3, by show Firm d' (fsS (l''.map Sm.s)); rw [k4]; exact e2, ⟨q, by show s.all = q ++ allR (l''.map Sm.s); rw [k4, e4]; exact hq1, hq2⟩, hok.w⟩, e5, by show wtL s.all ≤ _; rw [hwi]; omega, hro.imp id (fun h => by show d'.room = _; rw [e6]; exact h)⟩, ⟨rfl, rfl, rfl, rfl, rfl, rfl, rfl, rfl, trivial⟩, rfl⟩)
      have n3 : decide (op = 3) = false := decide_eq_false o3
      by_cases o5 : op = 5
      · subst o5
        have hlz : decide ((0 : Int) < (s.d.loose.length : Int)) = false := by rw [hok.firm.loose]; rfl
        have hLo := Loose_spec b s.d
        have hCr := crash_spec b s.d n m hok.firm.ok (by rw [hok.firm.loose]; exact Nat.zero_le _)
        have hFi := (hok.firm.crash n m)
        have hFn := hFi.names may_nT (by decide) hs hok.tw
        obtain ⟨f1, f2, f3, f4, f5, f6, f7⟩ := hok.facts hs hs1
        obtain ⟨q, hq1, hq2⟩ := hok.pre
        obtain ⟨d', l', e1, e2, e3, e4, e5, e6⟩ := reopen hs hok.tw hFi rfl
        have hOp := tOpen_spec b (s.d.crash n m) nT seg s.P (by decide) (by decide) hs hs1 hFn.1 (by rw [hFn.2, List.length_map]; omega) hFi.ok (by rw [hFi.loose]; exact Nat.zero_le _)
        rw [e1] at hOp
        simp only [tpV_ok] at hOp
        repeat' (first | (refine go_Y ?_; intros) | (refine gs_Y ?_ ?_ <;> (intro hgd; try (simp only [Bool.not_true, Bool.not_false] at hgd))) | (refine gc_Y ?_ ?_ <;> intro _) | fail)
        refine cl_Y (hLo) ?_
        intro _ _
        repeat' (first | (refine go_Y ?_; intros) | (refine gs_Y ?_ ?_ <;> (intro hgd; try (simp only [Bool.not_true, Bool.not_false] at hgd))) | (refine gc_Y ?_ ?_ <;> intro _) | fail)
        refine cl_Y (hCr) ?_
        intro _ _
        repeat' (first | (refine go_Y ?_; intros) | (refine gs_Y ?_ ?_ <;> (intro hgd; try (simp only [Bool.not_true, Bool.not_false] at hgd))) | (refine gc_Y ?_ ?_ <;> intro _) | fail)
        refine cl_Y (hOp) ?_
        rintro ⟨tb', vs', l'', P'⟩ ⟨k1, k2⟩
        obtain ⟨k3, k4⟩ := k2 trivial
        dsimp only at k1 k3 k4 ⊢
        repeat' (first | (refine go_Y ?_; intros) | (refine gs_Y ?_ ?_ <;> (intro hgd; try (simp only [Bool.not_true, Bool.not_false] at hgd))) | (refine gc_Y ?_ ?_ <;> intro _) | fail)
        exact cont_map (L' := plP b rb seg ⟨tb', vs', l'', d', s.f, s.all, s.rv, P'⟩ ++ R) entD (cont_meet ⟨tb', vs', l'', d', s.f, s.all, s.rv, P'⟩ ⟨⟨⟨hE.trans k1, k3, by show Tw nT seg s.f (l''.map Sm.s); rw [k4]; exact e3, by show Firm d' (fsS (l''.map Sm.s)); rw [k4]; exact e2, ⟨q, by show s.all = q ++ allR (l''.map Sm.s); rw [k4, e4]; exact hq1, hq2⟩, hok.w⟩, e5, by show wtL s.all ≤ _; rw [hwi]; omega, hro.imp id (fun h => by show d'.room = _; rw [e6]; exact h)⟩, ⟨rfl, rfl, rfl, rfl, rfl, rfl, rfl, rfl, trivial⟩, rfl⟩)
      have n5 : decide (op = 5) = false := decide_eq_false o5
      by_cases o6 : op = 6
      · subst o6
        cases full with
        | true =>
          have hrm := fun k => roomD_spec b s.d k
          repeat' (first | (refine go_Y ?_; intros) | (refine gs_Y ?_ ?_ <;> (intro hgd; try (simp only [Bool.not_true, Bool.not_false] at hgd))) | (refine gc_Y ?_ ?_ <;> intro _) | fail)
          generalize (if room < (if (0 : Int) > n then 0 else n) then room else (if (0 : Int) > n then 0 else n)) = k
          refine cl_Y (hrm k) ?_
          intro _ _
          repeat' (first | (refine go_Y ?_; intros) | (refine gs_Y ?_ ?_ <;> (intro hgd; try (simp only [Bool.not_true, Bool.not_false] at hgd))) | (refine gc_Y ?_ ?_ <;> intro _) | fail)
          obtain ⟨r1, r2⟩ := hok.firm.room k
          exact cont_map (L' := plP b rb seg { s with d := roomD s.d k } ++ R) entD (cont_meet { s with d := roomD s.d k } ⟨⟨⟨hok.ext, hok.sg, hok.tw, r1, hok.pre, hok.w⟩, by show (roomD s.d k).fuse = -1; rw [r2]; exact hfu, by show wtL s.all ≤ _; rw [hwi]; omega, .inl rfl⟩, ⟨rfl, rfl, rfl, rfl, rfl, rfl, rfl, rfl, trivial⟩, rfl⟩)
        | false =>
          repeat' (first | (refine go_Y ?_; intros) | (refine gs_Y ?_ ?_ <;> (intro hgd; try (simp only [Bool.not_true, Bool.not_false] at hgd))) | (refine gc_Y ?_ ?_ <;> intro _) | fail)
          exact cont_map (L' := plP b rb seg s ++ R) entD (cont_meet s ⟨⟨hok, hfu, by rw [hwi]; omega, hro⟩, ⟨rfl, rfl, rfl, rfl, rfl, rfl, rfl, rfl, trivial⟩, rfl⟩)
      · have n6 : decide (op = 6) = false := decide_eq_false o6
        repeat' (first | (refine go_Y ?_; intros) | (refine gs_Y ?_ ?_ <;> (intro hgd; try (simp only [Bool.not_true, Bool.not_false] at hgd))) | (refine gc_Y ?_ ?_ <;> intro _) | fail)
        exact cont_map (L' := plP b rb seg s ++ R) entD (cont_meet s ⟨⟨hok, hfu, by rw [hwi]; omega, hro⟩, ⟨rfl, rfl, rfl, rfl, rfl, rfl, rfl, rfl, trivial⟩, rfl⟩)
    · rintro s' ρ L ⟨⟨hok', hfu', hwt', hro'⟩, hk, rfl⟩
      refine ok_regs hk ?_
      obtain ⟨f1, f2, f3, f4, f5, f6, f7⟩ := hok'.facts hs hs1
      have hF := tFirst_spec s'.tb b nT (seg : Int) s'.vs 0 s'.l s'.P hok'.sg (by omega)
      have hN := tNext_spec s'.tb b nT (seg : Int) s'.vs 0 s'.l s'.P hok'.sg (by omega) (by omega)
      rw [hok'.tw.first] at hF
      rw [f1] at hN
      have hRN := rNext_spec rb s'.rv.1 s'.f seg s'.all (by omega)
      have hFa := tFault_spec s'.tb b nT (seg : Int) s'.vs 0
      have c1 : (!decide ((s'.f : Int) = (s'.f : Int))) = false := by simp
      have c2 : (!decide ((s'.all.length : Int) = (s'.all.length : Int))) = false := by simp
      repeat' (first | (refine go_Y ?_; intros) | (refine gs_Y ?_ ?_ <;> (intro hgd; try (simp only [Bool.not_true, Bool.not_false] at hgd))) | (refine gc_Y ?_ ?_ <;> intro _) | fail)
      refine ok_drawL (cv := []) [1] ([rtP rb s'.rv.1 s'.f seg]) (takeD) (by kernel_rfl) rfl (by decide +kernel) ?_
      repeat' (first | (refine go_Y ?_; intros) | (refine gs_Y ?_ ?_ <;> (intro hgd; try (simp only [Bool.not_true, Bool.not_false] at hgd))) | (refine gc_Y ?_ ?_ <;> intro _) | fail)
      refine clN_Y (hF) ?_
      intro _ _
      repeat' (first | (refine go_Y ?_; intros) | (refine gs_Y ?_ ?_ <;> (intro hgd; try (simp only [Bool.not_true, Bool.not_false] at hgd))) | (refine gc_Y ?_ ?_ <;> intro _) | fail)
      refine cl_Y (hN) ?_
      intro _ _
      repeat' (first | (refine go_Y ?_; intros) | (refine gs_Y ?_ ?_ <;> (intro hgd; try (simp only [Bool.not_true, Bool.not_false] at hgd))) | (refine gc_Y ?_ ?_ <;> intro _) | fail)
      refine cl_Y (hRN) ?_
      intro _ _
      repeat' (first | (refine go_Y ?_; intros) | (refine gs_Y ?_ ?_ <;> (intro hgd; try (simp only [Bool.not_true, Bool.not_false] at hgd))) | (refine gc_Y ?_ ?_ <;> intro _) | fail)
      refine cl_Y (hFa) ?_
      intro _ _
      repeat' (first | (refine go_Y ?_; intros) | (refine gs_Y ?_ ?_ <;> (intro hgd; try (simp only [Bool.not_true, Bool.not_false] at hgd))) | (refine gc_Y ?_ ?_ <;> intro _) | fail)
      refine cont_map (L' := plP b rb seg s' ++ R) entD ?_
      exact cont_back (i + 1, s') ⟨h, ⟨hok', hfu', hwt', hro'⟩, ⟨rfl, rfl, rfl, rfl, rfl, rfl, rfl, rfl, trivial⟩, rfl⟩ (by dsimp only; omega)
end Go.Proofs.YtadgdikijdmceaaGreat
