/- The walks of man.Check and what it calls. -/
import Derived.Test.YtgmobpngcilgjaaMnP
import Derived.Test.YtgmobpngcilgjaaFrX
-- @DEFS Z
set_option linter.unusedSimpArgs false
set_option linter.unusedVariables false
set_option maxRecDepth 4000
namespace Go.Proofs.Ytgmobpngcilgjaa
open Go Go.Fx Go.Proofs Go.Pl

theorem view_take {n : Nat} {p : Option Addr} {len cap k : Nat} {xs : List (List Value)} {h : Frag} (v : view n (.slice p len cap) xs h) (hk : k ≤ xs.length) : view n (.slice p k cap) (xs.take k) h := by
  obtain ⟨g, p', cap', e, h2, h3, h4⟩ := v
  simp only [Value.slice.injEq] at e
  obtain ⟨rfl, rfl, rfl⟩ := e
  have hlen : (xs.take k).length = k := by rw [List.length_take]; omega
  refine ⟨fun x hx => g x (List.mem_of_mem_take hx), p, cap, by rw [hlen], ?_, fun e => by rw [h3 e]; simp, fun b o hp hne => ?_⟩
  · rcases h2 with h2 | h2
    · left; rw [h2]; simp
    · exact .inr h2
  · obtain ⟨cs, T, fr, hb, hc⟩ := h4 b o hp (by rintro rfl; simp at hne)
    refine ⟨cs, T, fr, hb, fun j u hj => hc j u ?_⟩
    have e : xs.flatten = (xs.take k).flatten ++ (xs.drop k).flatten := by rw [← List.flatten_append, List.take_append_drop]
    rw [e, List.getElem?_append_left (List.getElem?_eq_some_iff.1 hj).1]
    exact hj
theorem Vw.take {A : HProp} {n : Nat} {p : Option Addr} {len cap k : Nat} {xs : List (List Value)} (v : Vw A n (.slice p len cap) xs) (hk : k ≤ xs.length) : Vw A n (.slice p k cap) (xs.take k) := fun h hh => view_take (v h hh) hk

theorem Index_spec (u : Value) (A : HProp) (ys : List Int) (n : Int) (hA : Vw A 1 u (ys.map uV)) (hz : ys.length ≤ 1099511627776) :
    FSpec Try.prog 136 [u, .int .u64 n] [A] Int (fun y => decide (0 ≤ y) = ys.contains n) (fun y => .int .i64 y) (fun _ => [A]) := by
  refine spec_intro [] _ Try.func136 rfl Try.ntmps136 (by rfl) (fun w0 R => ?_)
  refine ok_learn (VwIn.slice (VwIn.here hA)) ?_
  rintro ⟨pu, cu, rfl⟩
  repeat' (first | (refine go_Z ?_; intros) | (refine gs_Z ?_ ?_ <;> (intro hgd; try (simp only [Bool.not_true, Bool.not_false] at hgd))) | (refine gc_Z ?_ ?_ <;> intro _) | fail)
  have hlen : (ys.map uV).length = ys.length := by simp
  refine ok_loop' (γ := Nat) (fun i ρ L => i ≤ ys.length ∧ n ∉ ys.take i ∧ Knows ρ [(0, .slice pu (ys.map uV).length cu), (1, .int .u64 n), (7, .int .i64 (ys.map uV).length), (8, .int .i64 i)] ∧ L = [A] ++ R) (fun i => ys.length - i) 0 ⟨by simp, by simp, ⟨rfl, rfl, rfl, rfl, trivial⟩, rfl⟩ ?_
  rintro i ρ L ⟨hi, hno, hk, rfl⟩
  refine ok_regs hk ?_
  cases t1 : decide ((i : Int) < ((ys.map uV).length : Int)) with
  | true =>
    have h : i < ys.length := by simp at t1; omega
    have hn1 : i < (ys.map uV).length := by omega
    have hx : (ys.map uV)[i]? = some (uV ys[i]) := by rw [List.getElem?_map, List.getElem?_eq_getElem h]; rfl
    have htk : ys.take (i + 1) = ys.take i ++ [ys[i]] := by rw [List.take_add_one, List.getElem?_eq_getElem h]; rfl
    have hmem : ys[i] ∈ ys := List.getElem_mem h
    refine ok_learn (VwIn.base (VwIn.here hA) (by intro e; rw [e] at hn1; simp at hn1)) ?_
    rintro ⟨bu, ou, rfl⟩
    generalize ys[i] = x at hx htk hmem
    cases u1 : decide (n = x) with
    | true =>
      have hc : ys.contains n = true := by simpa [of_decide_eq_true u1] using hmem
      repeat' (first | (refine go_Z ?_; intros) | (refine gs_Z ?_ ?_ <;> (intro hgd; try (simp only [Bool.not_true, Bool.not_false] at hgd))) | (refine gc_Z ?_ ?_ <;> intro _) | fail)
      (refine rt_Z (y := (i : Int)) (hrs := Try.results136) (hv := ?_) (hφ := ?_))
      · rfl
      · rw [hc]; simp
    | false =>
      repeat' (first | (refine go_Z ?_; intros) | (refine gs_Z ?_ ?_ <;> (intro hgd; try (simp only [Bool.not_true, Bool.not_false] at hgd))) | (refine gc_Z ?_ ?_ <;> intro _) | fail)
      refine cont_back (i + 1) ⟨h, by rw [htk]; simp [hno]; simpa using u1, ⟨rfl, rfl, rfl, rfl, trivial⟩, rfl⟩ (by omega)
  | false =>
    have hie : i = ys.length := by simp at t1; omega
    subst hie
    rw [List.take_length] at hno
    repeat' (first | (refine go_Z ?_; intros) | (refine gs_Z ?_ ?_ <;> (intro hgd; try (simp only [Bool.not_true, Bool.not_false] at hgd))) | (refine gc_Z ?_ ?_ <;> intro _) | fail)
    (refine rt_Z (y := (-1 : Int)) (hrs := Try.results136) (hv := ?_) (hφ := ?_))
    · rfl
    · simpa using hno

theorem Contains_spec (u : Value) (A : HProp) (ys : List Int) (n : Int) (hA : Vw A 1 u (ys.map uV)) (hz : ys.length ≤ 1099511627776) :
    FSpec Try.prog 94 [u, .int .u64 n] [A] Unit (fun _ => True) (fun _ => .bool (ys.contains n)) (fun _ => [A]) := by
  refine spec_intro [] _ Try.func94 rfl Try.ntmps94 (by rfl) (fun w0 R => ?_)
  repeat' (first | (refine go_Z ?_; intros) | (refine gs_Z ?_ ?_ <;> (intro hgd; try (simp only [Bool.not_true, Bool.not_false] at hgd))) | (refine gc_Z ?_ ?_ <;> intro _) | fail)
  refine cl_Z (Index_spec u A ys n hA hz) ?_
  intro y hy
  rw [← hy]
  repeat' (first | (refine go_Z ?_; intros) | (refine gs_Z ?_ ?_ <;> (intro hgd; try (simp only [Bool.not_true, Bool.not_false] at hgd))) | (refine gc_Z ?_ ?_ <;> intro _) | fail)
  (refine rt_Z (y := ()) (hrs := Try.results94) (hv := ?_) (hφ := ?_))
  · rfl
  · trivial

theorem bad_spec (b : Nat) (m : Mn) (v : Value) (n : Int) : FSpec Try.prog 93 [.int .u64 n, .pointer (some ⟨b, 0, none⟩)] [pts b (.cells (manV m v).toArray 63)] Unit (fun _ => True) (fun _ => .bool (m.bad n)) (fun _ => [pts b (.cells (manV m v).toArray 63)]) := by
  unfold Mn.bad manV
  cases t1 : decide (n < 1) with
  | true =>
    refine spec_intro [] _ Try.func93 rfl Try.ntmps93 (by rfl) (fun w0 R => ?_)
    repeat' (first | (refine go_Z ?_; intros) | (refine gs_Z ?_ ?_ <;> (intro hgd; try (simp only [Bool.not_true, Bool.not_false] at hgd))) | (refine gc_Z ?_ ?_ <;> intro _) | fail)
    (refine rt_Z (y := ()) (hrs := Try.results93) (hv := ?_) (hφ := ?_))
    · rfl
    · trivial
  | false =>
    refine spec_intro [] _ Try.func93 rfl Try.ntmps93 (by rfl) (fun w0 R => ?_)
    repeat' (first | (refine go_Z ?_; intros) | (refine gs_Z ?_ ?_ <;> (intro hgd; try (simp only [Bool.not_true, Bool.not_false] at hgd))) | (refine gc_Z ?_ ?_ <;> intro _) | fail)
    (refine rt_Z (y := ()) (hrs := Try.results93) (hv := ?_) (hφ := ?_))
    · rfl
    · trivial

theorem bad_v (b : Nat) (m : Mn) (v : Value) (n : Int) : VSpec Try.prog (.func (.func 93) #[] [.pointer (some ⟨b, 0, none⟩)].toArray) [.int .u64 n] [pts b (.cells (manV m v).toArray 63)] Unit (fun _ => True) (fun _ => .bool (m.bad n)) (fun _ => [pts b (.cells (manV m v).toArray 63)]) :=
  vspec_func (args := [.int .u64 n]) (cap := [.pointer (some ⟨b, 0, none⟩)]) (bad_spec b m v n)

theorem Check_spec (m : Mn) (v : Value) (A : HProp) (hA : Vw A 1 v (m.runs.map uV)) (hcap : capOk v) (hz : m.runs.length ≤ 1099511627776) :
    FSpec Try.prog 43 [.agg (manV m v).toArray] [A] Unit (fun _ => True) (fun _ => .int .i64 (bif m.chk then 0 else 2)) (fun _ => [A]) := by
  have hlen : (m.runs.map uV).length = m.runs.length := by simp
  cases hh : m.head with
  | true =>
    have hc : m.chk = false := by simp [Mn.chk, hh]
    rw [hc]
    unfold Mn.head at hh
    refine spec_intro [] _ Try.func43 rfl Try.ntmps43 (by rfl) (fun w0 R => ?_)
    refine ok_learn (VwIn.slice (VwIn.here hA)) ?_
    rintro ⟨pu, cu, rfl⟩
    cases c1 : decide ((256 : Int) < ((m.runs.map uV).length : Int)) with
    | true =>
      repeat' (first | (refine go_Z ?_; intros) | (refine gs_Z ?_ ?_ <;> (intro hgd; try (simp only [Bool.not_true, Bool.not_false] at hgd))) | (refine gc_Z ?_ ?_ <;> intro _) | fail)
      (refine rt_Z (y := ()) (hrs := Try.results43) (hv := ?_) (hφ := ?_))
      · rfl
      · trivial
    | false =>
      cases c2 : decide (1099511627776 < m.next) with
      | true =>
        repeat' (first | (refine go_Z ?_; intros) | (refine gs_Z ?_ ?_ <;> (intro hgd; try (simp only [Bool.not_true, Bool.not_false] at hgd))) | (refine gc_Z ?_ ?_ <;> intro _) | fail)
        (refine rt_Z (y := ()) (hrs := Try.results43) (hv := ?_) (hφ := ?_))
        · rfl
        · trivial
      | false =>
        have c3 : m.bad m.wal = true := by
          have c1' : decide (256 < m.runs.length) = false := by simp at c1 ⊢; omega
          rw [c1', c2] at hh; simpa using hh
        repeat' (first | (refine go_Z ?_; intros) | (refine gs_Z ?_ ?_ <;> (intro hgd; try (simp only [Bool.not_true, Bool.not_false] at hgd))) | (refine gc_Z ?_ ?_ <;> intro _) | fail)
        rename_i b
        have hv := bad_v b m (.slice pu (m.runs.map uV).length cu) m.wal
        rw [c3] at hv
        refine clV_Z (hv) ?_
        intro _ _
        repeat' (first | (refine go_Z ?_; intros) | (refine gs_Z ?_ ?_ <;> (intro hgd; try (simp only [Bool.not_true, Bool.not_false] at hgd))) | (refine gc_Z ?_ ?_ <;> intro _) | fail)
        (refine rt_Z (y := ()) (hrs := Try.results43) (hv := ?_) (hφ := ?_))
        · rfl
        · trivial
  | false =>
    have hh' := hh
    simp only [Mn.head, Bool.or_eq_false_iff] at hh'
    obtain ⟨⟨h1, c2⟩, c3⟩ := hh'
    refine spec_intro [] _ Try.func43 rfl Try.ntmps43 (by rfl) (fun w0 R => ?_)
    refine ok_learn (VwIn.slice (VwIn.here hA)) ?_
    rintro ⟨pu, cu, rfl⟩
    have hcu : (m.runs.map uV).length ≤ cu := by
      obtain ⟨_, _, _, e, h⟩ := hcap
      cases e; exact h
    have c1 : decide ((256 : Int) < ((m.runs.map uV).length : Int)) = false := by simp at h1 ⊢; omega
    repeat' (first | (refine go_Z ?_; intros) | (refine gs_Z ?_ ?_ <;> (intro hgd; try (simp only [Bool.not_true, Bool.not_false] at hgd))) | (refine gc_Z ?_ ?_ <;> intro _) | fail)
    rename_i b
    have hv := bad_v b m (.slice pu (m.runs.map uV).length cu) m.wal
    rw [c3] at hv
    refine clV_Z (hv) ?_
    intro _ _
    repeat' (first | (refine go_Z ?_; intros) | (refine gs_Z ?_ ?_ <;> (intro hgd; try (simp only [Bool.not_true, Bool.not_false] at hgd))) | (refine gc_Z ?_ ?_ <;> intro _) | fail)
    refine ok_loop' (γ := Nat) (fun i ρ L => i ≤ m.runs.length ∧ (List.range i).all m.okAt = true ∧ Knows ρ [(1, .pointer (some ⟨b, 0, none⟩)), (3, .func (.func 93) #[] [.pointer (some ⟨b, 0, none⟩)].toArray), (23, .slice pu (m.runs.map uV).length cu), (24, .int .i64 (m.runs.map uV).length), (25, .int .i64 i)] ∧ L = [pts b (.cells (manV m (.slice pu (m.runs.map uV).length cu)).toArray 63), A] ++ R) (fun i => m.runs.length - i) 0 ⟨by simp, by simp, ⟨rfl, rfl, rfl, rfl, rfl, trivial⟩, rfl⟩ ?_
    rintro i ρ L ⟨hi, hok, hk, rfl⟩
    refine ok_regs hk ?_
    cases t1 : decide ((i : Int) < ((m.runs.map uV).length : Int)) with
    | true =>
      have h : i < m.runs.length := by simp at t1; omega
      have hn1 : i < (m.runs.map uV).length := by omega
      have hx : (m.runs.map uV)[i]? = some (uV m.runs[i]) := by rw [List.getElem?_map, List.getElem?_eq_getElem h]; rfl
      have hx2 : m.runs[i]? = some m.runs[i] := List.getElem?_eq_getElem h
      have hr : (List.range (i + 1)).all m.okAt = m.okAt i := by rw [List.range_succ]; simp [List.all_append, hok]
      have hat : m.okAt i = !(m.bad m.runs[i] || (m.runs.take i).contains m.runs[i] || decide (m.runs[i] = m.wal)) := by simp only [Mn.okAt, hx2]
      have hno : m.okAt i = false → m.chk = false := by
        intro e
        simp only [Mn.chk, Bool.and_eq_false_iff, List.all_eq_false, List.mem_range]
        exact .inr ⟨i, h, by simp [e]⟩
      refine ok_learn (VwIn.base (VwIn.there (VwIn.here hA)) (by intro e; rw [e] at hn1; simp at hn1)) ?_
      rintro ⟨bu, ou, rfl⟩
      generalize m.runs[i] = x at hx hat
      have hicu : i ≤ cu := by omega
      have hv := bad_v b m (.slice (some ⟨bu, ou, none⟩) (m.runs.map uV).length cu) x
      have hcs := Contains_spec (.slice (some ⟨bu, ou, none⟩) i cu) A (m.runs.take i) x (by rw [List.map_take]; exact hA.take (by omega)) (by rw [List.length_take]; omega)
      cases u1 : m.bad x with
      | true =>
        rw [hno (by rw [hat, u1]; rfl)]
        rw [u1] at hv
        repeat' (first | (refine go_Z ?_; intros) | (refine gs_Z ?_ ?_ <;> (intro hgd; try (simp only [Bool.not_true, Bool.not_false] at hgd))) | (refine gc_Z ?_ ?_ <;> intro _) | fail)
        refine clV_Z (hv) ?_
        intro _ _
        repeat' (first | (refine go_Z ?_; intros) | (refine gs_Z ?_ ?_ <;> (intro hgd; try (simp only [Bool.not_true, Bool.not_false] at hgd))) | (refine gc_Z ?_ ?_ <;> intro _) | fail)
        (refine rt_Z (y := ()) (hrs := Try.results43) (hv := ?_) (hφ := ?_))
        · rfl
        · trivial
      | false =>
        rw [u1] at hv
        cases u2 : (m.runs.take i).contains x with
        | true =>
          rw [hno (by rw [hat, u1, u2]; rfl)]
          rw [u2] at hcs
          repeat' (first | (refine go_Z ?_; intros) | (refine gs_Z ?_ ?_ <;> (intro hgd; try (simp only [Bool.not_true, Bool.not_false] at hgd))) | (refine gc_Z ?_ ?_ <;> intro _) | fail)
          refine clV_Z (hv) ?_
          intro _ _
          repeat' (first | (refine go_Z ?_; intros) | (refine gs_Z ?_ ?_ <;> (intro hgd; try (simp only [Bool.not_true, Bool.not_false] at hgd))) | (refine gc_Z ?_ ?_ <;> intro _) | fail)
          refine cl_Z (hcs) ?_
          intro _ _
          repeat' (first | (refine go_Z ?_; intros) | (refine gs_Z ?_ ?_ <;> (intro hgd; try (simp only [Bool.not_true, Bool.not_false] at hgd))) | (refine gc_Z ?_ ?_ <;> intro _) | fail)
          (refine rt_Z (y := ()) (hrs := Try.results43) (hv := ?_) (hφ := ?_))
          · rfl
          · trivial
        | false =>
          rw [u2] at hcs
          cases u3 : decide (x = m.wal) with
          | true =>
            rw [hno (by rw [hat, u1, u2, u3]; rfl)]
            repeat' (first | (refine go_Z ?_; intros) | (refine gs_Z ?_ ?_ <;> (intro hgd; try (simp only [Bool.not_true, Bool.not_false] at hgd))) | (refine gc_Z ?_ ?_ <;> intro _) | fail)
            refine clV_Z (hv) ?_
            intro _ _
            repeat' (first | (refine go_Z ?_; intros) | (refine gs_Z ?_ ?_ <;> (intro hgd; try (simp only [Bool.not_true, Bool.not_false] at hgd))) | (refine gc_Z ?_ ?_ <;> intro _) | fail)
            refine cl_Z (hcs) ?_
            intro _ _
            repeat' (first | (refine go_Z ?_; intros) | (refine gs_Z ?_ ?_ <;> (intro hgd; try (simp only [Bool.not_true, Bool.not_false] at hgd))) | (refine gc_Z ?_ ?_ <;> intro _) | fail)
            (refine rt_Z (y := ()) (hrs := Try.results43) (hv := ?_) (hφ := ?_))
            · rfl
            · trivial
          | false =>
            repeat' (first | (refine go_Z ?_; intros) | (refine gs_Z ?_ ?_ <;> (intro hgd; try (simp only [Bool.not_true, Bool.not_false] at hgd))) | (refine gc_Z ?_ ?_ <;> intro _) | fail)
            refine clV_Z (hv) ?_
            intro _ _
            repeat' (first | (refine go_Z ?_; intros) | (refine gs_Z ?_ ?_ <;> (intro hgd; try (simp only [Bool.not_true, Bool.not_false] at hgd))) | (refine gc_Z ?_ ?_ <;> intro _) | fail)
            refine cl_Z (hcs) ?_
            intro _ _
            repeat' (first | (refine go_Z ?_; intros) | (refine gs_Z ?_ ?_ <;> (intro hgd; try (simp only [Bool.not_true, Bool.not_false] at hgd))) | (refine gc_Z ?_ ?_ <;> intro _) | fail)
            refine cont_map (L' := [pts b (.cells (manV m (.slice (some ⟨bu, ou, none⟩) (m.runs.map uV).length cu)).toArray 63), A] ++ R) entD ?_
            refine cont_back (i + 1) ⟨h, by rw [hr, hat, u1, u2, u3]; rfl, ⟨rfl, rfl, rfl, rfl, rfl, trivial⟩, rfl⟩ (by omega)
    | false =>
      have hie : i = m.runs.length := by simp at t1; omega
      subst hie
      have hc : m.chk = true := by simp only [Mn.chk, hh, hok]; rfl
      rw [hc]
      repeat' (first | (refine go_Z ?_; intros) | (refine gs_Z ?_ ?_ <;> (intro hgd; try (simp only [Bool.not_true, Bool.not_false] at hgd))) | (refine gc_Z ?_ ?_ <;> intro _) | fail)
      (refine rt_Z (y := ()) (hrs := Try.results43) (hv := ?_) (hφ := ?_))
      · rfl
      · trivial
end Go.Proofs.Ytgmobpngcilgjaa
