/- The walk of man.Get. -/
import Derived.Test.YtgmobpngcilgjaaMnB
-- @DEFS Z
set_option linter.unusedSimpArgs false
set_option linter.unusedVariables false
set_option maxRecDepth 4000
namespace Go.Proofs.Ytgmobpngcilgjaa
open Go Go.Fx Go.Proofs Go.Pl

abbrev nxP (a b : Nat) (st : BA × Bool) : List HProp := [pts a (.cells [.string st.1].toArray 9), pts b (.cells [.bool st.2].toArray 4)]
theorem next_m (a b : Nat) (st : BA × Bool) (hz : st.1.size ≤ 4611686018427387904) : FSpec Try.prog 103 [.pointer (some ⟨a, 0, none⟩), .pointer (some ⟨b, 0, none⟩)] (nxP a b st) Unit (fun _ => True) (fun _ => .int .u64 (nxM st).1) (fun _ => nxP a b (nxM st).2) := by
  obtain ⟨s, f⟩ := st
  unfold nxM nxP
  dsimp only at hz ⊢
  by_cases h : s.size < 8
  · have t1 : decide ((s.size : Int) < 8) = true := by simp; omega
    simp only [h, if_true]
    refine spec_intro [] _ Try.func103 rfl Try.ntmps103 (by rfl) (fun w0 R => ?_)
    repeat' (first | (refine go_Z ?_; intros) | (refine gs_Z ?_ ?_ <;> (intro hgd; try (simp only [Bool.not_true, Bool.not_false] at hgd))) | (refine gc_Z ?_ ?_ <;> intro _) | fail)
    (refine rt_Z (y := ()) (hrs := Try.results103) (hv := ?_) (hφ := ?_))
    · rfl
    · trivial
  · have t1 : decide ((s.size : Int) < 8) = false := by simp; omega
    have z8 : (s.extract 0 8).size = 8 := by rw [ByteArray.size_extract]; omega
    have hg := get_spec (s.extract 0 8) (by omega) (by omega)
    rw [z8] at hg
    simp only [h, if_false]
    refine spec_intro [] _ Try.func103 rfl Try.ntmps103 (by rfl) (fun w0 R => ?_)
    repeat' (first | (refine go_Z ?_; intros) | (refine gs_Z ?_ ?_ <;> (intro hgd; try (simp only [Bool.not_true, Bool.not_false] at hgd))) | (refine gc_Z ?_ ?_ <;> intro _) | fail)
    refine cl_Z (hg) ?_
    intro _ _
    repeat' (first | (refine go_Z ?_; intros) | (refine gs_Z ?_ ?_ <;> (intro hgd; try (simp only [Bool.not_true, Bool.not_false] at hgd))) | (refine gc_Z ?_ ?_ <;> intro _) | fail)
    (refine rt_Z (y := ()) (hrs := Try.results103) (hv := ?_) (hφ := ?_))
    · rfl
    · trivial
theorem next_v (a b : Nat) (st : BA × Bool) (hz : st.1.size ≤ 4611686018427387904) : VSpec Try.prog (.func (.func 103) #[] [.pointer (some ⟨a, 0, none⟩), .pointer (some ⟨b, 0, none⟩)].toArray) [] (nxP a b st) Unit (fun _ => True) (fun _ => .int .u64 (nxM st).1) (fun _ => nxP a b (nxM st).2) :=
  vspec_func (args := []) (cap := [.pointer (some ⟨a, 0, none⟩), .pointer (some ⟨b, 0, none⟩)]) (next_m a b st hz)

theorem mGet_spec (s : BA) (hz : s.size ≤ 1099511627000) : FSpec Try.prog 46 [.string s] [] { v : Value // v.oneCell' = true } (fun _ => True) (fun v => .tuple #[.agg (manV (getM s).1 v.1).toArray, .int .i64 (getM s).2]) (fun v => [row 60 1 v.1 ((getM s).1.runs.map uV)]) := by
  unfold getM
  have hsl := scanF_len s.size s
  have hS := Scan_spec s (by omega)
  rw [show scanF s.size s = scanOf s from rfl] at hsl
  generalize scanOf s = sc at hsl hS
  obtain ⟨l, n, e⟩ := sc
  dsimp only at hsl hS ⊢
  cases u1 : (!decide (e = 0)) with
  | true =>
    rw [if_pos (by simpa using u1)]
    refine spec_intro [] _ Try.func46 rfl Try.ntmps46 (by rfl) (fun w0 R => ?_)
    repeat' (first | (refine go_Z ?_; intros) | (refine gs_Z ?_ ?_ <;> (intro hgd; try (simp only [Bool.not_true, Bool.not_false] at hgd))) | (refine gc_Z ?_ ?_ <;> intro _) | fail)
    refine cl_Z (hS) ?_
    rintro ⟨v, hv⟩ _
    repeat' (first | (refine go_Z ?_; intros) | (refine gs_Z ?_ ?_ <;> (intro hgd; try (simp only [Bool.not_true, Bool.not_false] at hgd))) | (refine gc_Z ?_ ?_ <;> intro _) | fail)
    refine cont_map (fun _ h => rowNil (e := 60) (n := 1) h) ?_
    (refine rt_Z (y := ⟨.slice none 0 0, rfl⟩) (hrs := Try.results46) (hv := ?_) (hφ := ?_))
    · rfl
    · trivial
  | false =>
    rw [if_neg (by simpa using u1)]
    cases u2 : (!decide (((l.map strV).length : Int) = 1)) with
    | true =>
      have hl1 : l.length ≠ 1 := by simp at u2; omega
      rw [getM1_ne hl1]
      refine spec_intro [] _ Try.func46 rfl Try.ntmps46 (by rfl) (fun w0 R => ?_)
      repeat' (first | (refine go_Z ?_; intros) | (refine gs_Z ?_ ?_ <;> (intro hgd; try (simp only [Bool.not_true, Bool.not_false] at hgd))) | (refine gc_Z ?_ ?_ <;> intro _) | fail)
      refine cl_Z (hS) ?_
      rintro ⟨v, hv⟩ _
      repeat' (first | (refine go_Z ?_; intros) | (refine gs_Z ?_ ?_ <;> (intro hgd; try (simp only [Bool.not_true, Bool.not_false] at hgd))) | (refine gc_Z ?_ ?_ <;> intro _) | fail)
      refine cont_map (fun _ h => rowNil (e := 60) (n := 1) h) ?_
      (refine rt_Z (y := ⟨.slice none 0 0, rfl⟩) (hrs := Try.results46) (hv := ?_) (hφ := ?_))
      · rfl
      · trivial
    | false =>
      have hl1 : l.length = 1 := by simp at u2; omega
      obtain ⟨t, rfl⟩ : ∃ t, l = [t] := by
        match l, hl1 with
        | [t], _ => exact ⟨t, rfl⟩
      have htz : t.size ≤ s.size := by simp [lenT] at hsl; omega
      rw [show getM1 [t] = (if takeM t then ((parseM t).1, 0) else (mn0, 7)) from rfl]
      refine spec_intro [] _ Try.func46 rfl Try.ntmps46 (by rfl) (fun w0 R => ?_)
      repeat' (first | (refine go_Z ?_; intros) | (refine gs_Z ?_ ?_ <;> (intro hgd; try (simp only [Bool.not_true, Bool.not_false] at hgd))) | (refine gc_Z ?_ ?_ <;> intro _) | fail)
      rename_i bm
      refine cl_Z (hS) ?_
      rintro ⟨v, hv⟩ _
      dsimp only
      have hx : ([t].map strV)[0]? = some (strV t) := rfl
      have hx0 : 0 < ([t].map strV).length := by simp
      refine ops_learn (row_cases takeD) ?_
      rintro (⟨rfl, hn⟩ | ⟨g, c, rfl, hgc⟩)
      · cases hn
      repeat' (first | (refine go_Z ?_; intros) | (refine gs_Z ?_ ?_ <;> (intro hgd; try (simp only [Bool.not_true, Bool.not_false] at hgd))) | (refine gc_Z ?_ ?_ <;> intro _) | fail)
      rename_i ba bb
      have z1 := (nxM_size (t, false)).1
      have z2 := (nxM_size (nxM (t, false)).2).1
      have z3 := (nxM_size (nxM (nxM (t, false)).2).2).1
      dsimp only at z1
      refine opsL_map (L' := [pts ba (.cells [.string t].toArray 9), pts bb (.cells [.bool false].toArray 4), pts bm (.cells [.int .u64 0, .slice none 0 0, .int .u64 0].toArray 63)] ++ R) entD ?_
      repeat' (first | (refine go_Z ?_; intros) | (refine gs_Z ?_ ?_ <;> (intro hgd; try (simp only [Bool.not_true, Bool.not_false] at hgd))) | (refine gc_Z ?_ ?_ <;> intro _) | fail)
      refine clV_Z (next_v ba bb (t, false) (by dsimp only; omega)) ?_
      intro _ _
      repeat' (first | (refine go_Z ?_; intros) | (refine gs_Z ?_ ?_ <;> (intro hgd; try (simp only [Bool.not_true, Bool.not_false] at hgd))) | (refine gc_Z ?_ ?_ <;> intro _) | fail)
      refine clV_Z (next_v ba bb (nxM (t, false)).2 (by omega)) ?_
      intro _ _
      repeat' (first | (refine go_Z ?_; intros) | (refine gs_Z ?_ ?_ <;> (intro hgd; try (simp only [Bool.not_true, Bool.not_false] at hgd))) | (refine gc_Z ?_ ?_ <;> intro _) | fail)
      rename_i bq
      refine clV_Z (next_v ba bb (nxM (nxM (t, false)).2).2 (by omega)) ?_
      intro _ _
      repeat' (first | (refine go_Z ?_; intros) | (refine gs_Z ?_ ?_ <;> (intro hgd; try (simp only [Bool.not_true, Bool.not_false] at hgd))) | (refine gc_Z ?_ ?_ <;> intro _) | fail)
      have hp1 : (parseM t).1.wal = (nxM (t, false)).1 := by simp only [parseM]
      have hp2 : (parseM t).1.next = (nxM (nxM (t, false)).2).1 := by simp only [parseM]
      have hp3 : (parseM t).2.1 = (nxM (nxM (nxM (t, false)).2).2).1 := by simp only [parseM]
      have hp4 : (parseM t).1.runs = (runsM (t.size + 1) (nxM (nxM (nxM (t, false)).2).2).2).1 := by simp only [parseM]
      have hp5 : (parseM t).2.2 = (runsM (t.size + 1) (nxM (nxM (nxM (t, false)).2).2).2).2 := by simp only [parseM]
      generalize (nxM (t, false)).1 = wal at hp1
      generalize (nxM (nxM (t, false)).2).1 = nxt at hp2
      generalize (nxM (nxM (nxM (t, false)).2).2).1 = many at hp3
      generalize (nxM (nxM (nxM (t, false)).2).2).2 = st3 at hp4 hp5 z3
      refine ok_map (L' := [pts bq (.cells [.int .u64 wal, .slice none 0 0, .int .u64 nxt].toArray 63), pts ba (.cells [.string st3.1].toArray 9), pts bb (.cells [.bool st3.2].toArray 4), pts bm (.cells [.int .u64 0, .slice none 0 0, .int .u64 0].toArray 63)] ++ R) entD ?_
      refine ok_map (fun _ h => rowNil (e := 60) (n := 1) h) ?_
      have hK : st3.1.size < t.size + 1 := by omega
      have hKt : t.size + 1 ≤ 1099511627776 := by omega
      generalize t.size + 1 = K at hp4 hp5 hK hKt
      refine ok_loop' (γ := Nat × (BA × Bool) × List Int × { v : Value // v.oneCell' = true }) (fun g ρ L => g.2.2.1 ++ (runsM g.1 g.2.1).1 = (parseM t).1.runs ∧ (runsM g.1 g.2.1).2 = (parseM t).2.2 ∧ (g.2.1.2 = true ∨ g.2.1.1.size < g.1) ∧ g.2.1.1.size ≤ 1099511627776 ∧ g.2.2.1.length + g.1 ≤ K ∧
        Knows ρ [(2, .pointer (some ⟨bm, 0, none⟩)), (7, .pointer (some ⟨ba, 0, none⟩)), (8, .pointer (some ⟨bb, 0, none⟩)), (9, .func (.func 103) #[] [.pointer (some ⟨ba, 0, none⟩), .pointer (some ⟨bb, 0, none⟩)].toArray), (10, .pointer (some ⟨bq, 0, none⟩)), (11, .int .u64 many)] ∧
        L = [row 60 1 g.2.2.2.1 (g.2.2.1.map uV), pts bq (.cells [.int .u64 wal, g.2.2.2.1, .int .u64 nxt].toArray 63), pts ba (.cells [.string g.2.1.1].toArray 9), pts bb (.cells [.bool g.2.1.2].toArray 4), pts bm (.cells [.int .u64 0, .slice none 0 0, .int .u64 0].toArray 63)] ++ R)
        (fun g => g.1) (K, st3, [], ⟨.slice none 0 0, rfl⟩) ⟨by rw [hp4]; rfl, hp5.symm, .inr hK, by dsimp only; omega, by simp, ⟨rfl, rfl, rfl, rfl, rfl, rfl, trivial⟩, rfl⟩ ?_
      rintro ⟨k, ⟨r, f⟩, pre, ⟨v, hv'⟩⟩ ρ L ⟨h1, h2, h3, h4, h5, hk, rfl⟩
      dsimp only at h1 h2 h3 h4 h5 hk ⊢
      refine ok_regs hk ?_
      have he := empty_ne r
      by_cases h0 : r.size ≠ 0 ∧ f = false
      · obtain ⟨h0, rfl⟩ := h0
        have t1 : (!(r.toList == (⟨#[]⟩ : BA).toList)) = true := by rw [he]; simp [h0]
        obtain ⟨k, rfl⟩ : ∃ j, k = j + 1 := ⟨k - 1, by have h3' := h3.resolve_left (by simp); omega⟩
        have hr : runsM (k + 1) (r, false) = ((nxM (r, false)).1 :: (runsM k (nxM (r, false)).2).1, (runsM k (nxM (r, false)).2).2) := by simp only [runsM, ne_eq, h0, not_false_eq_true, and_self, if_true]
        rw [hr] at h1 h2
        dsimp only at h1 h2
        have hzs := nxM_size (r, false)
        dsimp only at hzs
        have hnx := next_v ba bb (r, false) (by dsimp only; omega)
        generalize hnv : nxM (r, false) = y at h1 h2 hzs hnx
        obtain ⟨x, r', f'⟩ := y
        dsimp only at h1 h2 hzs hnx
        repeat' (first | (refine go_Z ?_; intros) | (refine gs_Z ?_ ?_ <;> (intro hgd; try (simp only [Bool.not_true, Bool.not_false] at hgd))) | (refine gc_Z ?_ ?_ <;> intro _) | fail)
        refine ok_drawL (cv := []) [3, 4] ([pts bq _]) (takeD) (by kernel_rfl) rfl (by decide +kernel) ?_
        repeat' (first | (refine go_Z ?_; intros) | (refine gs_Z ?_ ?_ <;> (intro hgd; try (simp only [Bool.not_true, Bool.not_false] at hgd))) | (refine gc_Z ?_ ?_ <;> intro _) | fail)
        refine clVN_Z (hnx) ?_
        intro _ _
        repeat' (first | (refine go_Z ?_; intros) | (refine gs_Z ?_ ?_ <;> (intro hgd; try (simp only [Bool.not_true, Bool.not_false] at hgd))) | (refine gc_Z ?_ ?_ <;> intro _) | fail)
        rename_i v1 hv1 v2 hv2
        refine cont_map (L' := [row 60 1 v2 ((pre ++ [x]).map uV), pts bq (.cells [.int .u64 wal, v2, .int .u64 nxt].toArray 63), pts ba (.cells [.string r'].toArray 9), pts bb (.cells [.bool f'].toArray 4), pts bm (.cells [.int .u64 0, .slice none 0 0, .int .u64 0].toArray 63)] ++ R) (by rw [List.map_append]; exact entD) ?_
        refine cont_back (k, (r', f'), pre ++ [x], ⟨v2, hv2⟩) ⟨by rw [← h1]; simp, h2, ?_, by dsimp only; omega, by simp; omega, ⟨rfl, rfl, rfl, rfl, rfl, rfl, trivial⟩, rfl⟩ (by show k < k + 1; omega)
        have h3' := h3.resolve_left (by simp)
        cases hf : f' with
        | true => exact .inl rfl
        | false => exact .inr (by have := hzs.2 hf; show r'.size < k; omega)
      · have hr : runsM k (r, f) = ([], f) := by
          cases k with
          | zero => rfl
          | succ k => simp only [runsM]; rw [if_neg h0]
        rw [hr] at h1 h2
        dsimp only at h1 h2
        rw [List.append_nil] at h1
        have hm : (parseM t).1 = ⟨wal, pre, nxt⟩ := by
          generalize (parseM t).1 = q at hp1 hp2 h1
          obtain ⟨a, b, c⟩ := q
          dsimp only at hp1 hp2 h1
          rw [hp1, hp2, h1]
        have htake : takeM t = (decide (many = (pre.length : Int)) && !f && (⟨wal, pre, nxt⟩ : Mn).chk) := by unfold takeM; rw [hm, hp3, ← h2]
        have hpl : (pre.map uV).length = pre.length := by simp
        have hple : pre.length ≤ 1099511627776 := by omega
        have hwr : IntKind.u64.wrap ((pre.map uV).length : Int) = ((pre.map uV).length : Int) := wrap_u64 _ (by omega)
        have hout : ∀ (X : Cx) (c : Code) (ds : List Deferred) (ρ : Regs) (L : List HProp) (Q : Exit → Act → World → Prop), True := fun _ _ _ _ _ _ => trivial
        refine ok_learn (row_cases takeD) ?_
        intro hrow
        have hcap : capOk v := by
          rcases hrow with ⟨rfl, _⟩ | ⟨g, c, rfl, hc⟩
          · exact ⟨none, 0, 0, rfl, Nat.le_refl _⟩
          · exact ⟨_, _, _, rfl, hc⟩
        clear hrow hout
        have hcs := Check_spec ⟨wal, pre, nxt⟩ v (row 60 1 v (pre.map uV)) Vw.row hcap (by dsimp only; omega)
        cases d1 : (!decide (many = ((pre.map uV).length : Int))) with
        | true =>
          have hno : takeM t = false := by
            rw [htake]
            rw [hpl] at d1
            simp only [Bool.not_eq_true', decide_eq_false_iff_not] at d1
            simp [d1]
          rw [hno, if_neg (by simp)]
          by_cases hr0 : r.size = 0
          · have t1 : (!(r.toList == (⟨#[]⟩ : BA).toList)) = false := by rw [he]; simp [hr0]
            repeat' (first | (refine go_Z ?_; intros) | (refine gs_Z ?_ ?_ <;> (intro hgd; try (simp only [Bool.not_true, Bool.not_false] at hgd))) | (refine gc_Z ?_ ?_ <;> intro _) | fail)
            refine cont_map (fun _ h => rowNil (e := 60) (n := 1) h) ?_
            (refine rt_Z (y := ⟨.slice none 0 0, rfl⟩) (hrs := Try.results46) (hv := ?_) (hφ := ?_))
            · rfl
            · trivial
          · have t1 : (!(r.toList == (⟨#[]⟩ : BA).toList)) = true := by rw [he]; simp [hr0]
            have hft : f = true := by
              cases f with
              | true => rfl
              | false => exact absurd ⟨hr0, rfl⟩ h0
            subst hft
            repeat' (first | (refine go_Z ?_; intros) | (refine gs_Z ?_ ?_ <;> (intro hgd; try (simp only [Bool.not_true, Bool.not_false] at hgd))) | (refine gc_Z ?_ ?_ <;> intro _) | fail)
            refine cont_map (fun _ h => rowNil (e := 60) (n := 1) h) ?_
            (refine rt_Z (y := ⟨.slice none 0 0, rfl⟩) (hrs := Try.results46) (hv := ?_) (hφ := ?_))
            · rfl
            · trivial
        | false =>
          have hmany : decide (many = (pre.length : Int)) = true := by rw [hpl] at d1; simpa using d1
          rw [hmany] at htake
          cases f with
          | true =>
            rw [htake, if_neg (by simp)]
            by_cases hr0 : r.size = 0
            · have t1 : (!(r.toList == (⟨#[]⟩ : BA).toList)) = false := by rw [he]; simp [hr0]
              repeat' (first | (refine go_Z ?_; intros) | (refine gs_Z ?_ ?_ <;> (intro hgd; try (simp only [Bool.not_true, Bool.not_false] at hgd))) | (refine gc_Z ?_ ?_ <;> intro _) | fail)
              refine cont_map (fun _ h => rowNil (e := 60) (n := 1) h) ?_
              (refine rt_Z (y := ⟨.slice none 0 0, rfl⟩) (hrs := Try.results46) (hv := ?_) (hφ := ?_))
              · rfl
              · trivial
            · have t1 : (!(r.toList == (⟨#[]⟩ : BA).toList)) = true := by rw [he]; simp [hr0]
              repeat' (first | (refine go_Z ?_; intros) | (refine gs_Z ?_ ?_ <;> (intro hgd; try (simp only [Bool.not_true, Bool.not_false] at hgd))) | (refine gc_Z ?_ ?_ <;> intro _) | fail)
              refine cont_map (fun _ h => rowNil (e := 60) (n := 1) h) ?_
              (refine rt_Z (y := ⟨.slice none 0 0, rfl⟩) (hrs := Try.results46) (hv := ?_) (hφ := ?_))
              · rfl
              · trivial
          | false =>
            have hr0 : r.size = 0 := by
              by_cases h : r.size = 0
              · exact h
              · exact absurd ⟨h, rfl⟩ h0
            have t1 : (!(r.toList == (⟨#[]⟩ : BA).toList)) = false := by rw [he]; simp [hr0]
            cases hchk : (⟨wal, pre, nxt⟩ : Mn).chk with
            | true =>
              rw [hchk] at htake hcs
              dsimp only [cond_true] at hcs
              rw [htake, if_pos (by simp), hm]
              repeat' (first | (refine go_Z ?_; intros) | (refine gs_Z ?_ ?_ <;> (intro hgd; try (simp only [Bool.not_true, Bool.not_false] at hgd))) | (refine gc_Z ?_ ?_ <;> intro _) | fail)
              refine cl_Z (hcs) ?_
              intro _ _
              repeat' (first | (refine go_Z ?_; intros) | (refine gs_Z ?_ ?_ <;> (intro hgd; try (simp only [Bool.not_true, Bool.not_false] at hgd))) | (refine gc_Z ?_ ?_ <;> intro _) | fail)
              (refine rt_Z (y := ⟨v, hv'⟩) (hrs := Try.results46) (hv := ?_) (hφ := ?_))
              · rfl
              · trivial
            | false =>
              rw [hchk] at htake hcs
              dsimp only [cond_false] at hcs
              rw [htake, if_neg (by simp)]
              repeat' (first | (refine go_Z ?_; intros) | (refine gs_Z ?_ ?_ <;> (intro hgd; try (simp only [Bool.not_true, Bool.not_false] at hgd))) | (refine gc_Z ?_ ?_ <;> intro _) | fail)
              refine cl_Z (hcs) ?_
              intro _ _
              repeat' (first | (refine go_Z ?_; intros) | (refine gs_Z ?_ ?_ <;> (intro hgd; try (simp only [Bool.not_true, Bool.not_false] at hgd))) | (refine gc_Z ?_ ?_ <;> intro _) | fail)
              refine cont_map (fun _ h => rowNil (e := 60) (n := 1) h) ?_
              (refine rt_Z (y := ⟨.slice none 0 0, rfl⟩) (hrs := Try.results46) (hv := ?_) (hφ := ?_))
              · rfl
              · trivial
end Go.Proofs.Ytgmobpngcilgjaa
