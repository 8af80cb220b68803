/- The walks of the document's mans (fascicleref11): May, Put, Get. -/
import Derived.Test.YtbagfdolcabniaaGreatR11P
import Derived.Test.YtbagfdolcabniaaGreatY
import Derived.Test.YtbagfdolcabniaaGreatG13
-- @DEFS Y
set_option linter.unusedSimpArgs false
set_option linter.unusedVariables false
set_option maxRecDepth 4000
namespace Go.Proofs.YtbagfdolcabniaaGreat
open Go Go.Fx Go.Proofs Go.Pl

set_option maxHeartbeats 2000000 in
theorem refMay11_spec (m : Mn) (v : Value) (A : HProp) (hA : Vw A 1 v (m.runs.map uV)) (hz : m.runs.length ≤ 1099511627776) :
    FSpec Tryz.prog 69 [.agg (manV m v).toArray] [A] Unit (fun _ => True) (fun _ => .bool m.chk) (fun _ => [A]) := by
  rw [← mayM_chk]
  have hlen : (m.runs.map uV).length = m.runs.length := by simp
  unfold mayM
  refine spec_intro [] _ Tryz.func69 rfl Tryz.ntmps69 (by rfl) (fun w0 R => ?_)
  refine ok_learn (VwIn.slice (VwIn.here hA)) ?_
  rintro ⟨pu, cu, rfl⟩
  repeat' (first | (refine go_Y ?_; intros) | (refine gs_Y ?_ ?_ <;> (intro hgd; try (simp only [Bool.not_true, Bool.not_false] at hgd))) | (refine gc_Y ?_ ?_ <;> intro _) | fail)
  rename_i bm _ _ vl hvl
  refine ok_map (L' := [row 33 1 vl ((m.wal :: m.runs).map uV), pts bm (.cells (manV m (.slice pu (m.runs.map uV).length cu)).toArray 36), A] ++ R) entD ?_
  have hll : (m.wal :: m.runs).length = m.runs.length + 1 := rfl
  have hl0 : 0 < (m.wal :: m.runs).length := by omega
  generalize hl : (m.wal :: m.runs) = l at hll hl0
  have hlm : (l.map uV).length = l.length := by simp
  refine ok_learn (row_cases takeD) ?_
  rintro (⟨rfl, hn⟩ | ⟨g, c, rfl, hgc⟩)
  · exfalso
    have := congrArg List.length hn
    rw [hlm, List.length_nil] at this; omega
  refine ok_loop' (γ := Nat) (fun i ρ L => i ≤ l.length ∧ (List.range i).all (okL m l) = true ∧ Knows ρ [(1, .pointer (some ⟨bm, 0, none⟩)), (3, .slice (some ⟨g, 0, none⟩) (l.map uV).length c), (4, .int .i64 i)] ∧ L = [row 33 1 (.slice (some ⟨g, 0, none⟩) (l.map uV).length c) (l.map uV), pts bm (.cells (manV m (.slice pu (m.runs.map uV).length cu)).toArray 36), A] ++ R) (fun i => l.length - i) 0 ⟨by simp, by simp, ⟨rfl, rfl, rfl, trivial⟩, rfl⟩ ?_
  rintro i ρ L ⟨hi, hok, hk, rfl⟩
  refine ok_regs hk ?_
  cases t1 : decide ((i : Int) < ((l.map uV).length : Int)) with
  | true =>
    have h : i < l.length := by simp at t1; omega
    have hn1 : i < (l.map uV).length := by omega
    have hx2 : l[i]? = some l[i] := List.getElem?_eq_getElem h
    have hx : (l.map uV)[i]? = some (uV l[i]) := by rw [List.getElem?_map, hx2]; rfl
    have hr : (List.range (i + 1)).all (okL m l) = okL m l i := by rw [List.range_succ]; simp [List.all_append, hok]
    have hat : okL m l i = !(m.bad l[i] || (l.take i).contains l[i]) := by simp only [okL, hx2]
    have hno : okL m l i = false → ((List.range l.length).all (okL m l) && (decide ((m.runs.length : Int) ≤ 256) && decide (m.next ≤ 1099511627776))) = false := by
      intro e
      rw [Bool.and_eq_false_iff]
      refine .inl ?_
      simp only [List.all_eq_false, List.mem_range]
      exact ⟨i, h, by simp [e]⟩
    generalize l[i] = x at hx hat
    unfold Mn.bad at hat
    cases u1 : decide (x < 1) with
    | true =>
      rw [hno (by rw [hat, u1]; rfl)]
      repeat' (first | (refine go_Y ?_; intros) | (refine gs_Y ?_ ?_ <;> (intro hgd; try (simp only [Bool.not_true, Bool.not_false] at hgd))) | (refine gc_Y ?_ ?_ <;> intro _) | fail)
      (refine rt_Y (y := ()) (hrs := Tryz.results69) (hv := ?_) (hφ := ?_))
      · rfl
      · trivial
    | false =>
    cases u2 : decide (m.next ≤ x) with
    | true =>
      rw [hno (by rw [hat, u1, u2]; rfl)]
      repeat' (first | (refine go_Y ?_; intros) | (refine gs_Y ?_ ?_ <;> (intro hgd; try (simp only [Bool.not_true, Bool.not_false] at hgd))) | (refine gc_Y ?_ ?_ <;> intro _) | fail)
      (refine rt_Y (y := ()) (hrs := Tryz.results69) (hv := ?_) (hφ := ?_))
      · rfl
      · trivial
    | false =>
    rw [u1, u2] at hat
    simp only [Bool.false_or] at hat
    repeat' (first | (refine go_Y ?_; intros) | (refine gs_Y ?_ ?_ <;> (intro hgd; try (simp only [Bool.not_true, Bool.not_false] at hgd))) | (refine gc_Y ?_ ?_ <;> intro _) | fail)
    refine ok_loop' (γ := Nat) (fun k ρ L => k ≤ i ∧ (l.take k).contains x = false ∧ Knows ρ [(1, .pointer (some ⟨bm, 0, none⟩)), (3, .slice (some ⟨g, 0, none⟩) (l.map uV).length c), (4, .int .i64 i), (5, .int .i64 k)] ∧ L = [row 33 1 (.slice (some ⟨g, 0, none⟩) (l.map uV).length c) (l.map uV), pts bm (.cells (manV m (.slice pu (m.runs.map uV).length cu)).toArray 36), A] ++ R) (fun k => i - k) 0 ⟨by simp, by simp, ⟨rfl, rfl, rfl, rfl, trivial⟩, rfl⟩ ?_
    rintro k ρ L ⟨hki, hnk, hk, rfl⟩
    refine ok_regs hk ?_
    cases t2 : decide ((k : Int) < (i : Int)) with
    | true =>
      have hk' : k < i := by simpa using t2
      have hkl : k < (l.map uV).length := by omega
      have hy2 : l[k]? = some l[k] := List.getElem?_eq_getElem (by omega)
      have hy : (l.map uV)[k]? = some (uV l[k]) := by rw [List.getElem?_map, hy2]; rfl
      have htk : l.take (k + 1) = l.take k ++ [l[k]] := by rw [List.take_add_one, hy2]; rfl
      have hsub : (l.take (k + 1)).contains x = true → (l.take i).contains x = true := by
        intro hc
        rw [List.contains_iff_mem] at hc ⊢
        exact List.take_subset_take_left l (by omega : k + 1 ≤ i) hc
      generalize l[k] = y at hy htk
      cases u3 : decide (y = x) with
      | true =>
        have hyx : y = x := by simpa using u3
        rw [hno (by rw [hat, hsub (by rw [htk, hyx]; simp)]; rfl)]
        repeat' (first | (refine go_Y ?_; intros) | (refine gs_Y ?_ ?_ <;> (intro hgd; try (simp only [Bool.not_true, Bool.not_false] at hgd))) | (refine gc_Y ?_ ?_ <;> intro _) | fail)
        (refine rt_Y (y := ()) (hrs := Tryz.results69) (hv := ?_) (hφ := ?_))
        · rfl
        · trivial
      | false =>
        repeat' (first | (refine go_Y ?_; intros) | (refine gs_Y ?_ ?_ <;> (intro hgd; try (simp only [Bool.not_true, Bool.not_false] at hgd))) | (refine gc_Y ?_ ?_ <;> intro _) | fail)
        refine cont_back (k + 1) ⟨hk', ?_, ⟨rfl, rfl, rfl, rfl, trivial⟩, rfl⟩ (by omega)
        rw [htk]
        have : x ≠ y := by intro e; rw [e] at u3; simp at u3
        have hn : ¬ x ∈ l.take k := by rw [← List.contains_iff_mem, hnk]; simp
        rw [Bool.eq_false_iff, ne_eq, List.contains_iff_mem]
        simp [hn, this]
    | false =>
      have hke : k = i := by simp at t2; omega
      subst hke
      repeat' (first | (refine go_Y ?_; intros) | (refine gs_Y ?_ ?_ <;> (intro hgd; try (simp only [Bool.not_true, Bool.not_false] at hgd))) | (refine gc_Y ?_ ?_ <;> intro _) | fail)
      refine cont_back (k + 1) ⟨h, by rw [hr, hat, hnk]; rfl, ⟨rfl, rfl, rfl, trivial⟩, rfl⟩ (by omega)
  | false =>
    have hie : i = l.length := by simp at t1; omega
    subst hie
    rw [hok, ← hlen]
    cases u1 : decide (((m.runs.map uV).length : Int) ≤ 256) with
    | true =>
      repeat' (first | (refine go_Y ?_; intros) | (refine gs_Y ?_ ?_ <;> (intro hgd; try (simp only [Bool.not_true, Bool.not_false] at hgd))) | (refine gc_Y ?_ ?_ <;> intro _) | fail)
      (refine rt_Y (y := ()) (hrs := Tryz.results69) (hv := ?_) (hφ := ?_))
      · rfl
      · trivial
    | false =>
      repeat' (first | (refine go_Y ?_; intros) | (refine gs_Y ?_ ?_ <;> (intro hgd; try (simp only [Bool.not_true, Bool.not_false] at hgd))) | (refine gc_Y ?_ ?_ <;> intro _) | fail)
      (refine rt_Y (y := ()) (hrs := Tryz.results69) (hv := ?_) (hφ := ?_))
      · rfl
      · trivial

theorem refPut11_bad (m : Mn) (v : Value) (A : HProp) (hA : Vw A 1 v (m.runs.map uV)) (hz : m.runs.length ≤ 1099511627776) (hc : m.chk = false) :
    FSpec Tryz.prog 41 [.agg (manV m v).toArray] [A] Unit (fun _ => True) (fun _ => .tuple #[.string ⟨#[]⟩, .int .i64 2]) (fun _ => [A]) := by
  have hs := refMay11_spec m v A hA hz
  rw [hc] at hs
  refine spec_intro [] _ Tryz.func41 rfl Tryz.ntmps41 (by rfl) (fun w0 R => ?_)
  repeat' (first | (refine go_Y ?_; intros) | (refine gs_Y ?_ ?_ <;> (intro hgd; try (simp only [Bool.not_true, Bool.not_false] at hgd))) | (refine gc_Y ?_ ?_ <;> intro _) | fail)
  refine cl_Y (hs) ?_
  intro _ _
  repeat' (first | (refine go_Y ?_; intros) | (refine gs_Y ?_ ?_ <;> (intro hgd; try (simp only [Bool.not_true, Bool.not_false] at hgd))) | (refine gc_Y ?_ ?_ <;> intro _) | fail)
  (refine rt_Y (y := ()) (hrs := Tryz.results41) (hv := ?_) (hφ := ?_))
  · rfl
  · trivial

theorem ref1Put8_spec (n : Int) (h0 : 0 ≤ n) (h1 : n ≤ 18446744073709551615) : FSpec Tryz.prog 70 [.int .u64 n, .int .i64 8] [] Unit (fun _ => True) (fun _ => .tuple #[.string (put8 n), .int .i64 0]) (fun _ => []) := by
  obtain ⟨k, rfl⟩ : ∃ k : Nat, n = k := ⟨n.toNat, by omega⟩
  exact ref1Put_spec k 8 (by omega) (by omega) (by omega) (.inl rfl)

theorem refPut11_spec (m : Mn) (v : Value) (A : HProp) (hA : Vw A 1 v (m.runs.map uV)) (hz : m.runs.length ≤ 1099511627776) (hc : m.chk = true) (hw : m.wf) :
    FSpec Tryz.prog 41 [.agg (manV m v).toArray] [A] Unit (fun _ => True) (fun _ => .tuple #[.string (mBytes m), .int .i64 0]) (fun _ => [A]) := by
  have hs := refMay11_spec m v A hA hz
  rw [hc] at hs
  have hhd := Mn.chk_head hc
  simp only [Mn.head, Bool.or_eq_false_iff, decide_eq_false_iff_not] at hhd
  have hlen : (m.runs.map uV).length = m.runs.length := by simp
  have hwr : IntKind.u64.wrap ((m.runs.map uV).length : Int) = ((m.runs.map uV).length : Int) := wrap_u64 _ (by omega)
  refine spec_intro [] _ Tryz.func41 rfl Tryz.ntmps41 (by rfl) (fun w0 R => ?_)
  refine ok_learn (VwIn.slice (VwIn.here hA)) ?_
  rintro ⟨pu, cu, rfl⟩
  repeat' (first | (refine go_Y ?_; intros) | (refine gs_Y ?_ ?_ <;> (intro hgd; try (simp only [Bool.not_true, Bool.not_false] at hgd))) | (refine gc_Y ?_ ?_ <;> intro _) | fail)
  refine cl_Y (hs) ?_
  intro _ _
  repeat' (first | (refine go_Y ?_; intros) | (refine gs_Y ?_ ?_ <;> (intro hgd; try (simp only [Bool.not_true, Bool.not_false] at hgd))) | (refine gc_Y ?_ ?_ <;> intro _) | fail)
  rename_i bm _ _ vl hvl
  have hns : ∀ n ∈ mNums m, 0 ≤ n ∧ n ≤ 18446744073709551615 := by
    intro n hn
    simp only [mNums, List.mem_cons] at hn
    rcases hn with rfl | rfl | rfl | hn
    · exact hw.1
    · exact hw.2.1
    · omega
    · exact hw.2.2 n hn
  have hnum : ([[Value.int .u64 m.wal], [Value.int .u64 m.next], [Value.int .u64 ((m.runs.map uV).length : Int)]] ++ m.runs.map uV) = (mNums m).map uV := by rw [hlen]; rfl
  have hnl : (mNums m).length = 3 + m.runs.length := by simp [mNums]; omega
  have hby : mBytes m = frameOf (put8s (mNums m)) := rfl
  rw [hby]
  refine ok_map (L' := [row 33 1 vl ((mNums m).map uV), A] ++ R) (by rw [← hnum]; exact entD) ?_
  generalize mNums m = ns at hns hnl
  have hln : (ns.map uV).length = ns.length := by simp
  refine ok_learn (row_cases takeD) ?_
  rintro (⟨rfl, hn⟩ | ⟨g, c, rfl, hgc⟩)
  · exfalso
    have := congrArg List.length hn
    rw [hln, List.length_nil] at this; omega
  refine ok_loop' (γ := Nat) (fun i ρ L => i ≤ ns.length ∧ Knows ρ [(4, .slice (some ⟨g, 0, none⟩) (ns.map uV).length c), (5, .string (put8s (ns.take i))), (6, .int .i64 i)] ∧ L = [row 33 1 (.slice (some ⟨g, 0, none⟩) (ns.map uV).length c) (ns.map uV), A] ++ R) (fun i => ns.length - i) 0 ⟨by simp, ⟨rfl, rfl, rfl, trivial⟩, rfl⟩ ?_
  rintro i ρ L ⟨hi, hk, rfl⟩
  refine ok_regs hk ?_
  cases t1 : decide ((i : Int) < ((ns.map uV).length : Int)) with
  | true =>
    have h : i < ns.length := by simp at t1; omega
    have hn1 : i < (ns.map uV).length := by omega
    have hx : (ns.map uV)[i]? = some (uV ns[i]) := by rw [List.getElem?_map, List.getElem?_eq_getElem h]; rfl
    have htk : ns.take (i + 1) = ns.take i ++ [ns[i]] := by rw [List.take_add_one, List.getElem?_eq_getElem h]; rfl
    have hmem := hns _ (List.getElem_mem h)
    generalize ns[i] = x at hx htk hmem
    have hsz : (put8s (ns.take i)).size ≤ 8 * ns.length := by rw [put8s_size, List.length_take]; omega
    have hs8 := put8_size x
    have hnx : put8s (ns.take i) ++ put8 x = put8s (ns.take (i + 1)) := by rw [htk, put8s_snoc]
    repeat' (first | (refine go_Y ?_; intros) | (refine gs_Y ?_ ?_ <;> (intro hgd; try (simp only [Bool.not_true, Bool.not_false] at hgd))) | (refine gc_Y ?_ ?_ <;> intro _) | fail)
    refine cl_Y (ref1Put8_spec x hmem.1 hmem.2) ?_
    intro _ _
    repeat' (first | (refine go_Y ?_; intros) | (refine gs_Y ?_ ?_ <;> (intro hgd; try (simp only [Bool.not_true, Bool.not_false] at hgd))) | (refine gc_Y ?_ ?_ <;> intro _) | fail)
    refine cont_back (i + 1) ⟨h, ⟨rfl, by rw [← hnx]; rfl, rfl, trivial⟩, rfl⟩ (by omega)
  | false =>
    have hie : i = ns.length := by simp at t1; omega
    subst hie
    have hsz : (put8s ns).size = 8 * ns.length := put8s_size _
    rw [List.take_length]
    repeat' (first | (refine go_Y ?_; intros) | (refine gs_Y ?_ ?_ <;> (intro hgd; try (simp only [Bool.not_true, Bool.not_false] at hgd))) | (refine gc_Y ?_ ?_ <;> intro _) | fail)
    refine cl_Y (ref7Put_spec (put8s ns) (by omega)) ?_
    intro _ _
    repeat' (first | (refine go_Y ?_; intros) | (refine gs_Y ?_ ?_ <;> (intro hgd; try (simp only [Bool.not_true, Bool.not_false] at hgd))) | (refine gc_Y ?_ ?_ <;> intro _) | fail)
    (refine rt_Y (y := ()) (hrs := Tryz.results41) (hv := ?_) (hφ := ?_))
    · rfl
    · trivial

/-! ### Get -/
theorem dropV_some11 (g len c m n : Nat) : ∃ o, dropV n (some ⟨g, 0, none⟩) len c m = .slice (some ⟨g, o, none⟩) (len - m) (c - m) := by
  unfold dropV
  by_cases h : c = m
  · exact ⟨0, by rw [if_pos h]⟩
  · exact ⟨m * n, by rw [if_neg h]; simp [Addr.add]; omega⟩
set_option maxHeartbeats 4000000 in
theorem refGet11_spec (s : BA) (hz : s.size ≤ 1099511627000) : FSpec Tryz.prog 44 [.string s] [] ({ v : Value // v.oneCell' = true } × HProp) (fun y => Vw y.2 1 y.1.1 ((getM s).1.runs.map uV)) (fun y => .tuple #[.agg (manV (getM s).1 y.1.1).toArray, .int .i64 (getM s).2]) (fun y => [y.2]) := by
  unfold getM
  have hsl := scanF_len s.size s
  have hS := ref7Scan_spec s (by omega)
  rw [show scanF s.size s = scanOf s from rfl] at hsl
  generalize scanOf s = sc at hsl hS
  obtain ⟨l, n, e⟩ := sc
  dsimp only at hsl hS ⊢
  cases u1 : (!decide (e = 0)) with
  | true =>
    rw [if_pos (by simpa using u1)]
    refine spec_intro [] _ Tryz.func44 rfl Tryz.ntmps44 (by rfl) (fun w0 R => ?_)
    repeat' (first | (refine go_Y ?_; intros) | (refine gs_Y ?_ ?_ <;> (intro hgd; try (simp only [Bool.not_true, Bool.not_false] at hgd))) | (refine gc_Y ?_ ?_ <;> intro _) | fail)
    refine cl_Y (hS) ?_
    rintro ⟨v, hv⟩ _
    repeat' (first | (refine go_Y ?_; intros) | (refine gs_Y ?_ ?_ <;> (intro hgd; try (simp only [Bool.not_true, Bool.not_false] at hgd))) | (refine gc_Y ?_ ?_ <;> intro _) | fail)
    refine cont_map (fun _ h => rowNil (e := 33) (n := 1) h) ?_
    (refine rt_Y (y := (⟨.slice none 0 0, rfl⟩, row 33 1 (.slice none 0 0) [])) (hrs := Tryz.results44) (hv := ?_) (hφ := ?_))
    · rfl
    · exact Vw.row
  | false =>
    rw [if_neg (by simpa using u1)]
    cases u2 : (!decide (((l.map strV).length : Int) = 1)) with
    | true =>
      have hl1 : l.length ≠ 1 := by simp at u2; omega
      rw [getM1_ne hl1]
      refine spec_intro [] _ Tryz.func44 rfl Tryz.ntmps44 (by rfl) (fun w0 R => ?_)
      repeat' (first | (refine go_Y ?_; intros) | (refine gs_Y ?_ ?_ <;> (intro hgd; try (simp only [Bool.not_true, Bool.not_false] at hgd))) | (refine gc_Y ?_ ?_ <;> intro _) | fail)
      refine cl_Y (hS) ?_
      rintro ⟨v, hv⟩ _
      repeat' (first | (refine go_Y ?_; intros) | (refine gs_Y ?_ ?_ <;> (intro hgd; try (simp only [Bool.not_true, Bool.not_false] at hgd))) | (refine gc_Y ?_ ?_ <;> intro _) | fail)
      refine cont_map (fun _ h => rowNil (e := 33) (n := 1) h) ?_
      (refine rt_Y (y := (⟨.slice none 0 0, rfl⟩, row 33 1 (.slice none 0 0) [])) (hrs := Tryz.results44) (hv := ?_) (hφ := ?_))
      · rfl
      · exact Vw.row
    | false =>
      have hl1 : l.length = 1 := by simp at u2; omega
      obtain ⟨t, rfl⟩ : ∃ t, l = [t] := by
        match l, hl1 with
        | [t], _ => exact ⟨t, rfl⟩
      have htz : t.size ≤ s.size := by simp [lenT] at hsl; omega
      have hx0 : ([t].map strV)[0]? = some (strV t) := rfl
      have hxl : 0 < ([t].map strV).length := by simp
      rw [show getM1 [t] = (if takeM t then ((parseM t).1, 0) else (mn0, 7)) from rfl]
      cases u3 : decide ((t.size : Int) < 24) with
      | true =>
        have hp := parse_short t (.inl (by have := of_decide_eq_true u3; omega))
        rw [if_neg (by unfold takeM; rw [hp]; simp)]
        refine spec_intro [] _ Tryz.func44 rfl Tryz.ntmps44 (by rfl) (fun w0 R => ?_)
        repeat' (first | (refine go_Y ?_; intros) | (refine gs_Y ?_ ?_ <;> (intro hgd; try (simp only [Bool.not_true, Bool.not_false] at hgd))) | (refine gc_Y ?_ ?_ <;> intro _) | fail)
        refine cl_Y (hS) ?_
        rintro ⟨v, hv⟩ _
        dsimp only
        refine ops_learn (row_cases takeD) ?_
        rintro (⟨rfl, hn⟩ | ⟨g, c, rfl, hgc⟩)
        · cases hn
        repeat' (first | (refine go_Y ?_; intros) | (refine gs_Y ?_ ?_ <;> (intro hgd; try (simp only [Bool.not_true, Bool.not_false] at hgd))) | (refine gc_Y ?_ ?_ <;> intro _) | fail)
        refine cont_map (fun _ h => rowNil (e := 33) (n := 1) h) ?_
        (refine rt_Y (y := (⟨.slice none 0 0, rfl⟩, row 33 1 (.slice none 0 0) [])) (hrs := Tryz.results44) (hv := ?_) (hφ := ?_))
        · rfl
        · exact Vw.row
      | false =>
      have h24 : 24 ≤ t.size := by simp at u3; omega
      have w8 : (t.size : Int).tmod 8 = ((t.size % 8 : Nat) : Int) := by
        rw [Int.tmod_eq_emod_of_nonneg (by omega)]
        simp
      cases u4 : (!decide (((t.size % 8 : Nat) : Int) = 0)) with
      | true =>
        have hp := parse_short t (.inr (by intro h; rw [h] at u4; simp at u4))
        rw [if_neg (by unfold takeM; rw [hp]; simp)]
        refine spec_intro [] _ Tryz.func44 rfl Tryz.ntmps44 (by rfl) (fun w0 R => ?_)
        repeat' (first | (refine go_Y ?_; intros) | (refine gs_Y ?_ ?_ <;> (intro hgd; try (simp only [Bool.not_true, Bool.not_false] at hgd))) | (refine gc_Y ?_ ?_ <;> intro _) | fail)
        refine cl_Y (hS) ?_
        rintro ⟨v, hv⟩ _
        dsimp only
        refine ops_learn (row_cases takeD) ?_
        rintro (⟨rfl, hn⟩ | ⟨g, c, rfl, hgc⟩)
        · cases hn
        repeat' (first | (refine go_Y ?_; intros) | (refine gs_Y ?_ ?_ <;> (intro hgd; try (simp only [Bool.not_true, Bool.not_false] at hgd))) | (refine gc_Y ?_ ?_ <;> intro _) | fail)
        refine cont_map (fun _ h => rowNil (e := 33) (n := 1) h) ?_
        (refine rt_Y (y := (⟨.slice none 0 0, rfl⟩, row 33 1 (.slice none 0 0) [])) (hrs := Tryz.results44) (hv := ?_) (hφ := ?_))
        · rfl
        · exact Vw.row
      | false =>
      have h8 : t.size % 8 = 0 := by
        simp only [Bool.not_eq_false', decide_eq_true_eq] at u4
        exact_mod_cast u4
      have hp := parse_words t h24 h8
      obtain ⟨q, hq⟩ : ∃ q, t.size = 8 * q := ⟨t.size / 8, by omega⟩
      have hqd : t.size / 8 = q := by omega
      rw [hqd] at hp
      refine spec_intro [] _ Tryz.func44 rfl Tryz.ntmps44 (by rfl) (fun w0 R => ?_)
      repeat' (first | (refine go_Y ?_; intros) | (refine gs_Y ?_ ?_ <;> (intro hgd; try (simp only [Bool.not_true, Bool.not_false] at hgd))) | (refine gc_Y ?_ ?_ <;> intro _) | fail)
      rename_i b2
      refine cl_Y (hS) ?_
      rintro ⟨v, hv⟩ _
      dsimp only
      refine ops_learn (row_cases takeD) ?_
      rintro (⟨rfl, hn⟩ | ⟨g, c, rfl, hgc⟩)
      · cases hn
      repeat' (first | (refine go_Y ?_; intros) | (refine gs_Y ?_ ?_ <;> (intro hgd; try (simp only [Bool.not_true, Bool.not_false] at hgd))) | (refine gc_Y ?_ ?_ <;> intro _) | fail)
      refine ok_map (fun _ h => rowNil (e := 33) (n := 1) h) ?_
      refine ok_map (L' := [row 33 1 (.slice none 0 0) ((wordsT t 0).map uV), row 9 1 (.slice (some ⟨g, 0, none⟩) ([t].map strV).length c) ([t].map strV), pts b2 (.cells [.int .u64 0, .slice none 0 0, .int .u64 0].toArray 36)] ++ R) entD ?_
      refine ok_loop' (γ := Nat × { v : Value // v.oneCell' = true }) (fun p ρ L => p.1 ≤ q ∧ Knows ρ [(2, .pointer (some ⟨b2, 0, none⟩)), (4, .slice (some ⟨g, 0, none⟩) ([t].map strV).length c), (7, p.2.1), (8, .int .i64 ((8 * p.1 : Nat) : Int))] ∧ L = [row 33 1 p.2.1 ((wordsT t p.1).map uV), row 9 1 (.slice (some ⟨g, 0, none⟩) ([t].map strV).length c) ([t].map strV), pts b2 (.cells [.int .u64 0, .slice none 0 0, .int .u64 0].toArray 36)] ++ R) (fun p => q - p.1) (0, ⟨.slice none 0 0, rfl⟩) ⟨by simp, ⟨rfl, rfl, rfl, rfl, trivial⟩, rfl⟩ ?_
      rintro ⟨j, ⟨vn, hvn⟩⟩ ρ L ⟨hj, hk, rfl⟩
      dsimp only at hj hk ⊢
      refine ok_regs hk ?_
      have hwl : ((wordsT t j).map uV).length = j := by rw [List.length_map, wordsT_len]
      cases t1 : decide (((8 * j : Nat) : Int) < (t.size : Int)) with
      | true =>
        have h : j < q := by simp only [decide_eq_true_eq] at t1; omega
        have e1 : (((8 * j : Nat) : Int)).toNat = 8 * j := by omega
        have e2 : (((8 * j : Nat) : Int) + 8).toNat = 8 * j + 8 := by omega
        have zx : (t.extract (8 * j) (8 * j + 8)).size = 8 := by rw [ByteArray.size_extract]; omega
        have hg : FSpec Tryz.prog 76 [.string (t.extract (((8 * j : Nat) : Int)).toNat ((((8 * j : Nat) : Int)) + 8).toNat)] [] Unit (fun _ => True) (fun _ => .tuple #[.int .u64 (wordT t j), .int .i64 0]) (fun _ => []) := by
          rw [e1, e2]
          exact ref1Get_spec _ (by omega) (by omega)
        have hnx := wordsT_next t j
        generalize wordT t j = w at hg hnx
        have hwl2 := wordsT_len t j
        generalize wordsT t j = ws at hwl hwl2 hnx
        repeat' (first | (refine go_Y ?_; intros) | (refine gs_Y ?_ ?_ <;> (intro hgd; try (simp only [Bool.not_true, Bool.not_false] at hgd))) | (refine gc_Y ?_ ?_ <;> intro _) | fail)
        refine cl_Y (hg) ?_
        intro _ _
        repeat' (first | (refine go_Y ?_; intros) | (refine gs_Y ?_ ?_ <;> (intro hgd; try (simp only [Bool.not_true, Bool.not_false] at hgd))) | (refine gc_Y ?_ ?_ <;> intro _) | fail)
        rename_i v1 hv1 v2 hv2
        refine cont_map (L' := [row 33 1 v2 ((wordsT t (j + 1)).map uV), row 9 1 (.slice (some ⟨g, 0, none⟩) ([t].map strV).length c) ([t].map strV), pts b2 (.cells [.int .u64 0, .slice none 0 0, .int .u64 0].toArray 36)] ++ R) (by rw [hnx, List.map_append]; exact entD) ?_
        refine cont_back (j + 1, ⟨v2, hv2⟩) ⟨h, ⟨rfl, rfl, rfl, by show Value.int IntKind.i64 (((8 * j : Nat) : Int) + 8) = Value.int IntKind.i64 ((8 * (j + 1) : Nat) : Int); rw [show (((8 * j : Nat) : Int) + 8) = ((8 * (j + 1) : Nat) : Int) by omega], trivial⟩, rfl⟩ (by dsimp only; omega)
      | false =>
        have hje : j = q := by simp only [decide_eq_false_iff_not] at t1; omega
        subst hje
        have g0 : ((wordsT t j).map uV)[0]? = some (uV (wordT t 0)) := by rw [List.getElem?_map, wordsT_at t j 0 (by omega)]; rfl
        have g1 : ((wordsT t j).map uV)[1]? = some (uV (wordT t 1)) := by rw [List.getElem?_map, wordsT_at t j 1 (by omega)]; rfl
        have g2 : ((wordsT t j).map uV)[2]? = some (uV (wordT t 2)) := by rw [List.getElem?_map, wordsT_at t j 2 (by omega)]; rfl
        have l0 : 0 < ((wordsT t j).map uV).length := by omega
        have l1 : 1 < ((wordsT t j).map uV).length := by omega
        have l2 : 2 < ((wordsT t j).map uV).length := by omega
        have l3 : 3 ≤ ((wordsT t j).map uV).length := by omega
        refine ok_learn (row_cases takeD) ?_
        rintro (⟨rfl, hn⟩ | ⟨gn, cn, rfl, hcn⟩)
        · exfalso
          have := congrArg List.length hn
          rw [hwl, List.length_nil] at this; omega
        obtain ⟨o, hdv⟩ := dropV_some11 gn ((wordsT t j).map uV).length cn 3 1
        have hdr : Vw (row 33 1 (.slice (some ⟨gn, 0, none⟩) ((wordsT t j).map uV).length cn) ((wordsT t j).map uV)) 1 (dropV 1 (some ⟨gn, 0, none⟩) ((wordsT t j).map uV).length cn 3) (((List.range' 3 (j - 3)).map (wordT t)).map uV) := by
          rw [← wordsT_drop t j (by omega), List.map_drop]
          exact Vw.drop Vw.row hcn
        rw [hdv] at hdr
        have htk : takeM t = (decide (wordT t 2 = ((((List.range' 3 (j - 3)).map (wordT t)).length : Nat) : Int)) && (⟨wordT t 0, (List.range' 3 (j - 3)).map (wordT t), wordT t 1⟩ : Mn).chk) := by
          unfold takeM; rw [hp]; dsimp only; simp
        have hrl : ((List.range' 3 (j - 3)).map (wordT t)).length = j - 3 := by simp
        have hl1 : ((wordsT t j).map uV).length - 3 = ((List.range' 3 (j - 3)).map (wordT t)).length := by rw [hwl, hrl]
        rw [hl1] at hdv hdr
        rw [htk, hp]
        dsimp only
        clear htk hp hS
        generalize (List.range' 3 (j - 3)).map (wordT t) = rs at hdr hdv hrl hl1
        generalize wordsT t j = ws at hdv hdr hwl g0 g1 g2 l0 l1 l2 l3 hcn hl1
        generalize wordT t 0 = w0' at g0
        generalize wordT t 1 = w1' at g1
        generalize wordT t 2 = w2' at g2
        have hmc := refMay11_spec ⟨w0', rs, w1'⟩ (.slice (some ⟨gn, o, none⟩) rs.length (cn - 3)) _ hdr (by dsimp only; omega)
        have hwr : IntKind.u64.wrap (rs.length : Int) = (rs.length : Int) := wrap_u64 _ (by omega)
        dsimp only [manV] at hmc
        repeat' (first | (refine go_Y ?_; intros) | (refine gs_Y ?_ ?_ <;> (intro hgd; try (simp only [Bool.not_true, Bool.not_false] at hgd))) | (refine gc_Y ?_ ?_ <;> intro _) | fail)
        (apply ok_draw [9]; (focus (kernel_rfl)); (focus ((conv => lhs; whnf); first | done | rfl)); (focus (decide +kernel)); (focus (exact (fun _ h => h))))
        iterate 8 ((apply ops_run); (first | (apply a_move; (focus ((conv => lhs; whnf); first | done | rfl)); (focus (exact rfl))) | (apply a_assign; (focus ((conv => lhs; whnf); first | done | rfl)); (focus (exact rfl))) | (apply a_fieldAddr; (focus (exact rfl)); (focus (exact rfl)); (focus (first | ((simp only [slot_add, Nat.reduceAdd, Nat.zero_add, Nat.add_zero]); first | done | rfl) | rfl)); (focus (exact rfl))) | (apply a_load; (focus (exact rfl)); (focus (exact rfl)); (focus ((repeat (first | exact RdIn.here (Rd.pts _ _) | (apply RdIn.here; apply Rd.orig; assumption) | (apply RdIn.here; with_reducible assumption) | apply RdIn.there)))); (focus (first | with_reducible assumption | exact rfl)); (focus (exact rfl))) | (apply a_loadA; (focus (exact rfl)); (focus ((repeat (first | exact RdIn.here (Rd.pts _ _) | (apply RdIn.here; apply Rd.orig; assumption) | (apply RdIn.here; with_reducible assumption) | apply RdIn.there)))); (focus (exact rfl)); (focus (first | ((simp only [List.take_succ_cons, List.take_zero, List.drop_succ_cons, List.drop_zero, List.nil_append, List.cons_append, List.append_assoc, List.append_nil, List.take_nil, List.drop_nil]); first | done | rfl) | exact rfl)); (focus (exact rfl))) | (apply a_nilCheck; (focus (exact rfl)); (focus (exact rfl))) | (apply a_nilCheck_func; (focus (exact rfl)); (focus (exact rfl))) | (apply a_nilCheck_yield; (focus (exact rfl)); (focus (exact rfl))) | (apply a_extract; (focus (exact rfl)); (focus (exact rfl)); (focus (exact rfl))) | (apply a_pick_true; (focus ((conv => lhs; whnf); first | done | with_reducible rfl | (refine congrArg Value.bool ?_; with_reducible assumption))); (focus ((conv => lhs; whnf); first | done | rfl)); (focus (exact rfl))) | (apply a_pick_false; (focus ((conv => lhs; whnf); first | done | with_reducible rfl | (refine congrArg Value.bool ?_; with_reducible assumption))); (focus ((conv => lhs; whnf); first | done | rfl)); (focus (exact rfl))) | (apply a_len_str; (focus (exact rfl)); (focus (exact rfl))) | (apply a_len_slice; (focus (exact rfl)); (focus (exact rfl))) | (apply a_cmp; (focus (exact rfl)); (focus (exact rfl)); (focus (exact rfl)); (focus ((simp only [cmpB, strB, nilB, Option.isNone_some, Option.isNone_none, Bool.not_true, Bool.not_false, decide_true, decide_false, Int.reduceEq, Int.reduceLT, Int.reduceLE]); first | done | rfl)); (focus (exact rfl))) | (apply a_strcmp; (focus (exact rfl)); (focus (exact rfl)); (focus (exact rfl)); (focus ((simp only [cmpB, strB, nilB, Option.isNone_some, Option.isNone_none, Bool.not_true, Bool.not_false, decide_true, decide_false, Int.reduceEq, Int.reduceLT, Int.reduceLE]); first | done | rfl)); (focus (exact rfl))) | (apply a_arith64; (focus (exact rfl)); (focus (exact rfl)); (focus (exact rfl)); (focus ((simp only [arith]); first | done | rfl)); (focus (omega)); (focus (exact rfl))) | (apply a_arith; (focus (exact rfl)); (focus (exact rfl)); (focus (exact rfl)); (focus (exact rfl))) | (apply a_not; (focus (exact rfl)); (focus (first | (with_reducible exact Bool.not_true) | (with_reducible exact Bool.not_false) | exact Bool.not_true | exact Bool.not_false | exact rfl)); (focus (exact rfl))) | (apply a_neg; (focus (exact rfl)); (focus (exact rfl))) | (apply a_compl; (focus (exact rfl)); (focus (exact rfl))) | (apply a_ptr_nil; (focus (exact rfl)); (focus (exact rfl)); (focus (exact rfl)); (focus ((simp only [cmpB, strB, nilB, Option.isNone_some, Option.isNone_none, Bool.not_true, Bool.not_false, decide_true, decide_false, Int.reduceEq, Int.reduceLT, Int.reduceLE]); first | done | rfl)); (focus (exact rfl))) | (apply a_booleq; (focus (exact rfl)); (focus (exact rfl)); (focus (exact rfl)); (focus ((simp only [cmpB, strB, nilB, Option.isNone_some, Option.isNone_none, Bool.not_true, Bool.not_false, decide_true, decide_false, Int.reduceEq, Int.reduceLT, Int.reduceLE]); first | done | rfl)); (focus (exact rfl))) | (apply a_map_nil; (focus (exact rfl)); (focus (exact rfl)); (focus (exact rfl)); (focus ((simp only [cmpB, strB, nilB, Option.isNone_some, Option.isNone_none, Bool.not_true, Bool.not_false, decide_true, decide_false, Int.reduceEq, Int.reduceLT, Int.reduceLE]); first | done | rfl)); (focus (exact rfl))) | (apply a_func_nil; (focus (exact rfl)); (focus (exact rfl)); (focus (exact rfl)); (focus ((simp only [cmpB, strB, nilB, Option.isNone_some, Option.isNone_none, Bool.not_true, Bool.not_false, decide_true, decide_false, Int.reduceEq, Int.reduceLT, Int.reduceLE]); first | done | rfl)); (focus (exact rfl))) | (apply a_nilfunc_nil; (focus (exact rfl)); (focus (exact rfl)); (focus (exact rfl)); (focus ((simp only [cmpB, strB, nilB, Option.isNone_some, Option.isNone_none, Bool.not_true, Bool.not_false, decide_true, decide_false, Int.reduceEq, Int.reduceLT, Int.reduceLE]); first | done | rfl)); (focus (exact rfl))) | (apply a_slice_nil; (focus (exact rfl)); (focus (exact rfl)); (focus (exact rfl)); (focus ((simp only [cmpB, strB, nilB, Option.isNone_some, Option.isNone_none, Bool.not_true, Bool.not_false, decide_true, decide_false, Int.reduceEq, Int.reduceLT, Int.reduceLE]); first | done | rfl)); (focus (exact rfl))) | (apply a_build; (focus ((repeat (first | exact EvP.nil | (apply EvP.cons; (focus ((conv => lhs; whnf); first | done | rfl))))))); (focus (exact rfl)); (focus (first | ((simp only [Value.cells, List.take_succ_cons, List.take_zero, List.drop_succ_cons, List.drop_zero, List.nil_append, List.cons_append, List.append_assoc, List.append_nil, List.take_nil, List.drop_nil, Nat.reduceAdd, Nat.zero_add]); first | done | rfl) | exact rfl)); (focus (exact rfl))) | (apply a_field1; (focus (exact rfl)); (focus (exact rfl)); (focus (exact rfl))) | (apply a_fieldA; (focus (exact rfl)); (focus (first | ((simp only [List.take_succ_cons, List.take_zero, List.drop_succ_cons, List.drop_zero, List.nil_append, List.cons_append, List.append_assoc, List.append_nil, List.take_nil, List.drop_nil]); first | done | rfl) | exact rfl)); (focus (exact rfl))) | (apply a_bits; (focus (exact rfl)); (focus (exact rfl)); (focus (exact rfl)); (focus (exact rfl))) | (apply a_shift; (focus (exact rfl)); (focus (exact rfl)); (focus (first | omega | assumption | decide)); (focus (exact rfl)); (focus (exact rfl))) | (apply s_store; (focus (exact rfl)); (focus ((conv => lhs; whnf); first | done | rfl)); (focus (first | exact one_cells rfl | (apply one_cells; with_reducible assumption) | exact agg_cells _)); (focus ((repeat (first | exact Sel.here | apply Sel.there)))); (focus (first | exact rfl | (exact one_one (by assumption)) | with_reducible assumption)); (focus (exact rfl)); (focus (first | with_reducible assumption | exact rfl)); (focus (first | ((simp only [List.take_succ_cons, List.take_zero, List.drop_succ_cons, List.drop_zero, List.nil_append, List.cons_append, List.append_assoc, List.append_nil, List.take_nil, List.drop_nil]); first | done | rfl) | exact rfl)); (focus (exact rfl))) | (apply s_box; (focus ((conv => lhs; whnf); first | done | rfl)); (focus (first | exact one_cells rfl | (apply one_cells; with_reducible assumption) | exact agg_cells _)); (focus (exact rfl)); (focus (exact rfl)); intro _) | (apply s_alloc; (focus (first | exact one_cells rfl | (apply one_cells; with_reducible assumption) | exact agg_cells _)); (focus (exact rfl)); (focus (exact rfl)); intro _) | (apply a_makeFunc; (focus ((repeat (first | exact EvA.nil | (apply EvA.cons; (focus ((conv => lhs; whnf); first | done | rfl))))))); (focus ((repeat (first | exact EvA.nil | (apply EvA.cons; (focus ((conv => lhs; whnf); first | done | rfl))))))); (focus (exact rfl))) | (apply a_ptr_eq; (focus (exact rfl)); (focus (exact rfl)); (focus (exact rfl)); (focus (exact rfl)); (focus ((repeat (first | exact RdIn.here (Rd.pts _ _) | (apply RdIn.here; apply Rd.orig; assumption) | (apply RdIn.here; with_reducible assumption) | apply RdIn.there)))); (focus ((repeat (first | exact RdIn.here (Rd.pts _ _) | (apply RdIn.here; apply Rd.orig; assumption) | (apply RdIn.here; with_reducible assumption) | apply RdIn.there)))); (focus (first | exact eql_same | exact neq_same | ((first | refine eql_ne ?_ | refine neq_ne ?_); simp [*]; first | done | fail) | exact rfl)); (focus (exact rfl))) | (apply a_structeq; (focus (exact rfl)); (focus (exact rfl)); (focus (exact rfl)); (focus (exact rfl)); (focus (exact rfl)); (focus (exact rfl))) | (apply a_len_view; (focus ((conv => lhs; whnf); first | done | rfl)); (focus ((repeat (first | exact VwIn.here Vw.row | exact VwIn.here Vw.bytes | (apply VwIn.here; assumption) | apply VwIn.there)); first | done | fail)); (focus (exact rfl))) | (apply s_append; (focus (exact rfl)); (focus ((conv => lhs; whnf); first | done | rfl)); (focus ((conv => lhs; whnf); first | done | rfl)); (focus ((repeat (first | exact Sel.here | apply Sel.there)))); (focus ((repeat (first | exact VwIn.here Vw.row | exact VwIn.here Vw.bytes | (apply VwIn.here; assumption) | apply VwIn.there)); first | done | fail)); (focus (first | omega | ((simp only [List.length_map, List.length_cons, List.length_nil, List.length_append]); omega))); (focus (first | omega | ((simp only [List.length_map, List.length_cons, List.length_nil, List.length_append]); omega))); (focus (exact rfl)); (focus (exact rfl))); intro _ _ | (apply s_append_str; (focus (exact rfl)); (focus ((conv => lhs; whnf); first | done | rfl)); (focus ((conv => lhs; whnf); first | done | rfl)); (focus ((repeat (first | exact Sel.here | apply Sel.there)))); (focus (first | omega | ((simp only [List.length_map, List.length_cons, List.length_nil, List.length_append]); omega))); (focus (first | omega | ((simp only [List.length_map, List.length_cons, List.length_nil, List.length_append]); omega))); (focus (exact rfl)); (focus (exact rfl))); intro _ _ | (apply s_buildSlice; (focus ((repeat (first | exact EvP.nil | (apply EvP.cons; (focus ((conv => lhs; whnf); first | done | rfl))))))); (focus ((simp only [List.map_cons, List.map_nil, agg_cells]); first | done | rfl)); (focus (exact rfl)); (focus (exact rfl)); (focus (first | exact rfl | with_reducible assumption)); (focus (exact rfl)); (focus (exact rfl)); (focus (exact rfl)); (focus (exact rfl))); intro _ _ | (apply a_lookup; (focus (exact rfl)); (focus ((conv => lhs; whnf); first | done | rfl)); (focus ((repeat (first | exact MpIn.here (fun _ h => h) | exact MpIn.here (fun _ h => rangeK.map h) | apply MpIn.there)); first | done | fail)); (focus (first | with_reducible assumption | exact rfl)); (focus ((simp only [lookOf, Option.getD_some, Option.getD_none, Option.isSome_some, Option.isSome_none, if_true, if_false, Bool.false_eq_true]); first | done | rfl)); (focus (exact rfl))) | (apply a_lookup_nil; (focus (exact rfl)); (focus ((conv => lhs; whnf); first | done | rfl)); (focus ((simp only [lookOf, Option.getD_some, Option.getD_none, Option.isSome_some, Option.isSome_none, if_true, if_false, Bool.false_eq_true]); first | done | rfl)); (focus (exact rfl))) | (apply a_entry; (focus (exact rfl)); (focus ((repeat (first | exact CurIn.here | apply CurIn.there)); first | done | fail)); (focus (exact rfl))) | (apply a_max; (focus (exact rfl)); (focus (exact rfl)); (focus (exact rfl))) | (apply a_min; (focus (exact rfl)); (focus (exact rfl)); (focus (exact rfl))) | (apply a_slice_lo; (focus (exact rfl)); (focus (exact rfl)); (focus (first | assumption | omega)); (focus (exact rfl))) | (apply a_slice_hi; (focus (exact rfl)); (focus (exact rfl)); (focus (first | assumption | omega)); (focus (exact rfl))) | (apply a_slice_both; (focus (exact rfl)); (focus (exact rfl)); (focus (exact rfl)); (focus (first | assumption | omega)); (focus (exact rfl))) | (apply a_slice_view; (focus (exact rfl)); (focus (exact rfl)); (focus (first | assumption | exact rfl | exact ix_lit _)); (focus (first | assumption | omega)); (focus (first | with_reducible assumption | (intro _ e; cases e; done) | (intro _ e; cases e; rfl))); (focus (exact rfl))) | (apply a_slice_viewlo; (focus (exact rfl)); (focus (exact rfl)); (focus (first | assumption | exact rfl | exact ix_lit _)); (focus (first | assumption | omega)); (focus (exact rfl))) | (apply a_convert_int; (focus (exact rfl)); (focus (exact rfl)); (focus (first | assumption | exact rfl)); (focus (exact rfl))) | (apply a_makeIface; (focus ((conv => lhs; whnf); first | done | rfl)); (focus (exact rfl)); (focus (exact rfl))) | (apply s_assert; (focus (exact rfl)); (focus (exact rfl)); (focus (exact rfl)); (focus (exact rfl))) | (apply a_len_map; (focus (exact rfl)); (focus ((repeat (first | exact MpIn.here (fun _ h => h) | exact MpIn.here (fun _ h => rangeK.map h) | apply MpIn.there)); first | done | fail)); (focus (exact rfl))) | (apply a_concat; (focus (exact rfl)); (focus (exact rfl)); (focus (omega)); (focus (exact rfl))) | (apply s_mapUpdate; (focus (exact rfl)); (focus ((conv => lhs; whnf); first | done | rfl)); (focus ((conv => lhs; whnf); first | done | rfl)); (focus ((repeat (first | exact Sel.here | apply Sel.there)))); (focus (exact rfl))) | (apply s_delete; (focus (exact rfl)); (focus ((conv => lhs; whnf); first | done | rfl)); (focus ((repeat (first | exact Sel.here | apply Sel.there)))); (focus (exact rfl))) | (apply s_makeMap; (focus (exact rfl)); (focus (exact rfl)); intro _) | (apply s_range; (focus (exact rfl)); (focus ((repeat (first | exact Sel.here | apply Sel.there)))); (focus (exact rfl)); (focus (exact rfl)); intro _) | (apply s_convert_bytes; (focus (exact rfl)); (focus (exact rfl)); (focus (exact rfl)); (focus (exact rfl)); intro _ _) | (apply a_indexAddr; (focus (exact rfl)); (focus (exact rfl)); (focus (first | assumption | exact rfl | exact ix_lit _)); (focus (first | assumption | omega)); (focus (exact rfl))) | (apply a_loadS; (focus (exact rfl)); (focus (exact rfl)); (focus ((repeat (first | exact VwIn.here Vw.row | exact VwIn.here Vw.bytes | (apply VwIn.here; assumption) | apply VwIn.there)); first | done | fail)); (focus (assumption)); (focus (first | ((simp only [List.take_succ_cons, List.take_zero, List.drop_succ_cons, List.drop_zero, List.nil_append, List.cons_append, List.append_assoc, List.append_nil, List.take_nil, List.drop_nil]); first | done | rfl) | exact rfl)); (focus (exact rfl))) | (apply a_loadSA; (focus (exact rfl)); (focus ((repeat (first | exact VwIn.here Vw.row | exact VwIn.here Vw.bytes | (apply VwIn.here; assumption) | apply VwIn.there)); first | done | fail)); (focus (assumption)); (focus (exact rfl)); (focus (exact rfl)); (focus (first | ((simp only [List.take_succ_cons, List.take_zero, List.drop_succ_cons, List.drop_zero, List.nil_append, List.cons_append, List.append_assoc, List.append_nil, List.take_nil, List.drop_nil]); first | done | rfl) | exact rfl)); (focus (exact rfl))) | (apply a_index_str; (focus (exact rfl)); (focus (exact rfl)); (focus (first | assumption | exact rfl | exact ix_lit _)); (focus (assumption)); (focus (exact rfl))) | (apply a_build_arr; (focus ((repeat (first | exact EvP.nil | (apply EvP.cons; (focus ((conv => lhs; whnf); first | done | rfl))))))); (focus (exact rfl)); (focus (exact rfl)); (focus (exact rfl)); (focus (exact rfl)); (focus (exact rfl))) | (apply a_index_arr; (focus (exact rfl)); (focus (exact rfl)); (focus (first | assumption | exact rfl | exact ix_lit _)); (focus (first | assumption | omega)); (focus (exact rfl)); (focus (first | with_reducible assumption | exact rfl)); (focus (exact rfl))) | (apply a_index_arrA; (focus (exact rfl)); (focus (exact rfl)); (focus (first | assumption | exact rfl | exact ix_lit _)); (focus (first | assumption | omega)); (focus (first | ((simp only [List.take_succ_cons, List.take_zero, List.drop_succ_cons, List.drop_zero, List.nil_append, List.cons_append, List.append_assoc, List.append_nil, List.take_nil, List.drop_nil]); first | done | rfl) | exact rfl)); (focus (exact rfl))) | (apply a_indexAddr_arr; (focus (exact rfl)); (focus (exact rfl)); (focus (first | assumption | exact rfl | exact ix_lit _)); (focus (first | assumption | omega)); (focus (exact rfl))) | (apply s_cap; (focus (exact rfl)); (focus (exact rfl)); (focus (exact rfl))) | (apply s_storeRow1; (focus (exact rfl)); (focus ((conv => lhs; whnf); first | done | rfl)); (focus (exact rfl)); (focus (first | exact rfl | (exact one_one (by assumption)) | with_reducible assumption)); (focus ((repeat (first | exact Sel.here | apply Sel.there)))); (focus (first | assumption | omega)); (focus (exact rfl))) | (apply s_makeSlice1; (focus (exact rfl)); (focus (exact rfl)); (focus (first | assumption | exact rfl | exact ix_lit _)); (focus (first | omega | ((simp only [List.length_map, List.length_cons, List.length_nil, List.length_append]); omega))); (focus (exact rfl)); (focus (first | omega | ((simp only [List.length_map, List.length_cons, List.length_nil, List.length_append]); omega))); (focus (exact rfl)); (focus (exact rfl))); intro _ | (apply s_bytes_string; (focus ((conv => lhs; whnf); first | done | rfl)); (focus (exact rfl)); (focus ((repeat (first | exact VwIn.here Vw.row | exact VwIn.here Vw.bytes | (apply VwIn.here; assumption) | apply VwIn.there)); first | done | fail)); (focus (exact rfl)); (focus (exact rfl))) | (apply s_buildSlice_nb; (focus ((repeat (first | exact EvP.nil | (apply EvP.cons; (focus ((conv => lhs; whnf); first | done | rfl))))))); (focus ((simp only [List.map_cons, List.map_nil, agg_cells]); first | done | rfl)); (focus (exact rfl)); (focus (exact rfl)); (focus (first | exact rfl | with_reducible assumption)); (focus (exact rfl)); (focus (exact rfl)); (focus (exact rfl)); (focus (first | exact (fun _ h => Keep.out (by (repeat (first | exact Keep.refl | apply Keep.drop)); first | done | fail) h) | exact (takePre (by (repeat (first | (apply Take.cons; (focus ((repeat (first | exact Sel.here | apply Sel.there)); first | done | fail))) | exact Take.nil)); first | done | fail))))); intro _ _ | (apply s_box_nb; (focus ((conv => lhs; whnf); first | done | rfl)); (focus (first | exact one_cells rfl | (apply one_cells; with_reducible assumption) | exact agg_cells _)); (focus (exact rfl)); (focus (first | exact (fun _ h => Keep.out (by (repeat (first | exact Keep.refl | apply Keep.drop)); first | done | fail) h) | exact (takePre (by (repeat (first | (apply Take.cons; (focus ((repeat (first | exact Sel.here | apply Sel.there)); first | done | fail))) | exact Take.nil)); first | done | fail))))); intro _ | (apply s_alloc_nb; (focus (first | exact one_cells rfl | (apply one_cells; with_reducible assumption) | exact agg_cells _)); (focus (exact rfl)); (focus (first | exact (fun _ h => Keep.out (by (repeat (first | exact Keep.refl | apply Keep.drop)); first | done | fail) h) | exact (takePre (by (repeat (first | (apply Take.cons; (focus ((repeat (first | exact Sel.here | apply Sel.there)); first | done | fail))) | exact Take.nil)); first | done | fail))))); intro _ | (apply s_store_nb; (focus (exact rfl)); (focus ((conv => lhs; whnf); first | done | rfl)); (focus (first | exact one_cells rfl | (apply one_cells; with_reducible assumption) | exact agg_cells _)); (focus ((repeat (first | exact Sel.here | apply Sel.there)))); (focus (first | exact rfl | (exact one_one (by assumption)) | with_reducible assumption)); (focus (exact rfl)); (focus (first | with_reducible assumption | exact rfl)); (focus (first | ((simp only [List.take_succ_cons, List.take_zero, List.drop_succ_cons, List.drop_zero, List.nil_append, List.cons_append, List.append_assoc, List.append_nil, List.take_nil, List.drop_nil]); first | done | rfl) | exact rfl)); (focus (first | exact (fun _ h => Keep.out (by (repeat (first | exact Keep.refl | apply Keep.drop)); first | done | fail) h) | exact (takePre (by (repeat (first | (apply Take.cons; (focus ((repeat (first | exact Sel.here | apply Sel.there)); first | done | fail))) | exact Take.nil)); first | done | fail))))) | (apply s_append_nb; (focus (exact rfl)); (focus ((conv => lhs; whnf); first | done | rfl)); (focus ((conv => lhs; whnf); first | done | rfl)); (focus ((repeat (first | exact Sel.here | apply Sel.there)))); (focus ((repeat (first | exact VwIn.here Vw.row | exact VwIn.here Vw.bytes | (apply VwIn.here; assumption) | apply VwIn.there)); first | done | fail)); (focus (first | omega | ((simp only [List.length_map, List.length_cons, List.length_nil, List.length_append]); omega))); (focus (first | omega | ((simp only [List.length_map, List.length_cons, List.length_nil, List.length_append]); omega))); (focus (exact rfl)); (focus (first | exact (fun _ h => Keep.out (by (repeat (first | exact Keep.refl | apply Keep.drop)); first | done | fail) h) | exact (takePre (by (repeat (first | (apply Take.cons; (focus ((repeat (first | exact Sel.here | apply Sel.there)); first | done | fail))) | exact Take.nil)); first | done | fail))))); intro _ _ | (apply a_loadT; (focus (exact rfl)); (focus (exact rfl)); (focus (exact rfl)); (focus ((repeat (first | exact RdIn.here (Rd.pts _ _) | (apply RdIn.here; apply Rd.orig; assumption) | (apply RdIn.here; with_reducible assumption) | apply RdIn.there)))); (focus (first | with_reducible assumption | exact rfl)); (focus (exact rfl))) | (apply a_loadL; (focus (exact rfl)); (focus (exact rfl)); (focus (exact rfl)); (focus ((repeat (first | exact RdIn.here (Rd.pts _ _) | (apply RdIn.here; apply Rd.orig; assumption) | (apply RdIn.here; with_reducible assumption) | apply RdIn.there)))); (focus (first | with_reducible assumption | exact rfl)); (focus (exact rfl))) | (apply a_loadAL; (focus (exact rfl)); (focus (exact rfl)); (focus ((repeat (first | exact RdIn.here (Rd.pts _ _) | (apply RdIn.here; apply Rd.orig; assumption) | (apply RdIn.here; with_reducible assumption) | apply RdIn.there)))); (focus (exact rfl)); (focus (first | ((simp only [List.take_succ_cons, List.take_zero, List.drop_succ_cons, List.drop_zero, List.nil_append, List.cons_append, List.append_assoc, List.append_nil, List.take_nil, List.drop_nil]); first | done | rfl) | exact rfl)); (focus (exact rfl))) | (apply s_storeT; (focus (exact rfl)); (focus (exact rfl)); (focus ((conv => lhs; whnf); first | done | rfl)); (focus (first | exact one_cells rfl | (apply one_cells; with_reducible assumption) | exact agg_cells _)); (focus ((repeat (first | exact Sel.here | apply Sel.there)))); (focus (first | exact rfl | (exact one_one (by assumption)) | with_reducible assumption)); (focus (exact rfl)); (focus (first | with_reducible assumption | exact rfl)); (focus (first | ((simp only [List.take_succ_cons, List.take_zero, List.drop_succ_cons, List.drop_zero, List.nil_append, List.cons_append, List.append_assoc, List.append_nil, List.take_nil, List.drop_nil]); first | done | rfl) | exact rfl)); (focus (exact rfl)); (focus (first | exact (fun _ h => Keep.out (by (repeat (first | exact Keep.refl | apply Keep.drop)); first | done | fail) h) | exact (takePre (by (repeat (first | (apply Take.cons; (focus ((repeat (first | exact Sel.here | apply Sel.there)); first | done | fail))) | exact Take.nil)); first | done | fail))))) | (apply a_rem; (focus (exact rfl)); (focus (exact rfl)); (focus (first | assumption | decide | omega)); (focus (first | assumption | exact rfl)); (focus (exact rfl))) | (apply a_quo; (focus (exact rfl)); (focus (exact rfl)); (focus (first | assumption | decide | omega)); (focus (first | assumption | exact rfl)); (focus (exact rfl))) | (apply s_bytes_string_nb; (focus ((conv => lhs; whnf); first | done | rfl)); (focus (exact rfl)); (focus ((repeat (first | exact VwIn.here Vw.row | exact VwIn.here Vw.bytes | (apply VwIn.here; assumption) | apply VwIn.there)); first | done | fail)); (focus (exact rfl)); (focus (first | exact (fun _ h => Keep.out (by (repeat (first | exact Keep.refl | apply Keep.drop)); first | done | fail) h) | exact (takePre (by (repeat (first | (apply Take.cons; (focus ((repeat (first | exact Sel.here | apply Sel.there)); first | done | fail))) | exact Take.nil)); first | done | fail))))) | (apply s_storeBytes; (focus (exact rfl)); (focus (exact rfl)); (focus (assumption)); (focus ((repeat (first | exact Sel.here | apply Sel.there)))); (focus (first | assumption | omega)); (focus (exact rfl)))))
        rw [hdv]
        repeat' (first | (refine ro_Y ?_; intros) | fail)
        rename_i b11
        cases d1 : (!decide (w2' = (rs.length : Int))) with
        | true =>
          rw [show decide (w2' = ((rs.length : Nat) : Int)) = false by simpa using d1]
          dsimp only [Bool.false_and]
          rw [if_neg (by simp)]
          repeat' (first | (refine go_Y ?_; intros) | (refine gs_Y ?_ ?_ <;> (intro hgd; try (simp only [Bool.not_true, Bool.not_false] at hgd))) | (refine gc_Y ?_ ?_ <;> intro _) | fail)
          refine cont_map (fun _ h => rowNil (e := 33) (n := 1) h) ?_
          (refine rt_Y (y := (⟨.slice none 0 0, rfl⟩, row 33 1 (.slice none 0 0) [])) (hrs := Tryz.results44) (hv := ?_) (hφ := ?_))
          · rfl
          · exact Vw.row
        | false =>
          rw [show decide (w2' = ((rs.length : Nat) : Int)) = true by simpa using d1]
          cases hck : (⟨w0', rs, w1'⟩ : Mn).chk with
          | true =>
            rw [hck] at hmc
            rw [if_pos (by rfl)]
            repeat' (first | (refine go_Y ?_; intros) | (refine gs_Y ?_ ?_ <;> (intro hgd; try (simp only [Bool.not_true, Bool.not_false] at hgd))) | (refine gc_Y ?_ ?_ <;> intro _) | fail)
            refine cl_Y (hmc) ?_
            intro _ _
            repeat' (first | (refine go_Y ?_; intros) | (refine gs_Y ?_ ?_ <;> (intro hgd; try (simp only [Bool.not_true, Bool.not_false] at hgd))) | (refine gc_Y ?_ ?_ <;> intro _) | fail)
            (refine rt_Y (y := (⟨.slice (some ⟨gn, o, none⟩) rs.length (cn - 3), rfl⟩, row 33 1 (.slice (some ⟨gn, 0, none⟩) (ws.map uV).length cn) (ws.map uV))) (hrs := Tryz.results44) (hv := ?_) (hφ := ?_))
            · rfl
            · exact hdr
          | false =>
            rw [hck] at hmc
            rw [if_neg (by simp)]
            repeat' (first | (refine go_Y ?_; intros) | (refine gs_Y ?_ ?_ <;> (intro hgd; try (simp only [Bool.not_true, Bool.not_false] at hgd))) | (refine gc_Y ?_ ?_ <;> intro _) | fail)
            refine cl_Y (hmc) ?_
            intro _ _
            repeat' (first | (refine go_Y ?_; intros) | (refine gs_Y ?_ ?_ <;> (intro hgd; try (simp only [Bool.not_true, Bool.not_false] at hgd))) | (refine gc_Y ?_ ?_ <;> intro _) | fail)
            refine cont_map (fun _ h => rowNil (e := 33) (n := 1) h) ?_
            (refine rt_Y (y := (⟨.slice none 0 0, rfl⟩, row 33 1 (.slice none 0 0) [])) (hrs := Tryz.results44) (hv := ?_) (hφ := ?_))
            · rfl
            · exact Vw.row
end Go.Proofs.YtbagfdolcabniaaGreat
