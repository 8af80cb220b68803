import Derived.Test.YtphaegcoldpclaaDoorQaA
import Derived.Test.YtphaegcoldpclaaDoorSdD
set_option linter.unusedSimpArgs false
set_option linter.unusedVariables false
set_option maxRecDepth 100000
namespace Go.Proofs.YtphaegcoldpclaaDoor
open Go Go.Fx Go.Proofs Go.Pl

def okC (c : Co) : Bool := nameS c.name && (!decide (c.kind < 1) && !decide (5 < c.kind))
def colsR (l : List Co) (key : Int) : Bool := (l.all okC && decide (l.map (·.name)).Nodup) && (decide ((1 : Int) ≤ (l.length : Int)) && (decide ((l.length : Int) ≤ 8) && (decide ((0 : Int) ≤ key) && (decide (key < (l.length : Int)) && !(colAt l key).null))))
theorem ba_ne {a b : BA} (h : a ≠ b) : (a.toList == b.toList) = false := by
  rw [beq_eq_false_iff_ne]
  intro e
  exact h (by
    rw [ByteArray.toList_eq, ByteArray.toList_eq] at e
    cases a; cases b; simp at e; subst e; rfl)
set_option maxHeartbeats 4000000 in
theorem rCols_spec (t : Tb) (A : HProp) (ht : TbOk A t) : FSpec Tryd.prog 40 [.agg (tbV t).toArray] [A] Unit (fun _ => True) (fun _ => .bool (colsR t.cols t.key)) (fun _ => [A]) := by
  obtain ⟨hv, hlen, hnm, hcnm⟩ := ht
  obtain ⟨tn, cols, ⟨cv, hcv⟩, key, ref, par⟩ := t
  dsimp only [tbV] at hv hlen hnm hcnm ⊢
  generalize hT : colsR cols key = T
  have hlm : (cols.map coV).length = cols.length := by simp
  refine spec_intro [] _ Tryd.func40 rfl Tryd.ntmps40 (by rfl) (fun w0 R => ?_)
  refine ok_learn (VwIn.slice (VwIn.here hv)) ?_
  rintro ⟨pc, cc, rfl⟩
  repeat' (first | (refine go_Y ?_; intros) | (refine gs_Y ?_ ?_ <;> (intro hgd; try (simp only [Bool.not_true, Bool.not_false] at hgd))) | (refine gc_Y ?_ ?_ <;> intro _) | fail)
  rename_i b1
  refine ok_map (L' := [pts b1 (.cells [.string tn, .slice pc (cols.map coV).length cc, .int .i64 key, .int .i64 ref, .int .i64 par].toArray 84), A] ++ R) entD ?_
  refine ok_loop' (γ := Nat) (fun i ρ L => i ≤ cols.length ∧ (cols.take i).all okC = true ∧ ((cols.take i).map (·.name)).Nodup ∧
      Knows ρ [(1, .pointer (some ⟨b1, 0, none⟩)), (3, .int .i64 i)] ∧
      L = [pts b1 (.cells [.string tn, .slice pc (cols.map coV).length cc, .int .i64 key, .int .i64 ref, .int .i64 par].toArray 84), A] ++ R) (fun i => cols.length - i)
    0 ⟨by omega, rfl, by simp, ⟨rfl, rfl, trivial⟩, rfl⟩ ?_
  rintro i ρ L ⟨hi, hall, hnd, hk, rfl⟩
  refine ok_regs hk ?_
  cases t1 : decide ((i : Int) < ((cols.map coV).length : Int)) with
  | true =>
    have h : i < cols.length := by simp at t1; omega
    have hci : cols[i]? = some cols[i] := List.getElem?_eq_getElem h
    have hx : (cols.map coV)[i]? = some (coV cols[i]) := by rw [List.getElem?_map, hci]; rfl
    have hn1 : i < (cols.map coV).length := by omega
    have htk : cols.take (i + 1) = cols.take i ++ [cols[i]] := List.take_succ_eq_append_getElem h
    have hin := List.getElem_mem h
    have hsz := hcnm _ hin
    refine ok_learn (VwIn.base (VwIn.there (VwIn.here hv)) (by intro e; rw [e] at hn1; simp at hn1)) ?_
    rintro ⟨bu, ou, rfl⟩
    have hdup : cols[i].name ∈ (cols.take i).map (·.name) → T = false := fun hm => by
      have : ¬ (cols.map (·.name)).Nodup := fun hd => by
        have hd2 : ((cols.take (i + 1)).map (·.name)).Nodup := hd.sublist ((List.take_sublist ..).map _)
        rw [htk, List.map_append, List.nodup_append] at hd2
        exact hd2.2.2 _ hm _ (List.mem_singleton.2 rfl) rfl
      rw [← hT]; unfold colsR; simp [this]
    have hbad : okC cols[i] = false → T = false := fun hb => by
      have : cols.all okC = false := List.all_eq_false.2 ⟨_, hin, by simp [hb]⟩
      rw [← hT]; unfold colsR; rw [this]; rfl
    generalize cols[i] = c at hx htk hsz hin hdup hbad
    obtain ⟨cn, ck, cb⟩ := c
    dsimp only [coV, okC] at hx hsz hdup hbad
    have hns := rName_spec cn (by omega)
    cases hb : nameS cn with
    | false =>
      rw [hbad (by rw [hb]; rfl)]
      rw [hb] at hns
      repeat' (first | (refine go_Y ?_; intros) | (refine gs_Y ?_ ?_ <;> (intro hgd; try (simp only [Bool.not_true, Bool.not_false] at hgd))) | (refine gc_Y ?_ ?_ <;> intro _) | fail)
      refine cl_Y (hns) ?_
      intro _ _
      repeat' (first | (refine go_Y ?_; intros) | (refine gs_Y ?_ ?_ <;> (intro hgd; try (simp only [Bool.not_true, Bool.not_false] at hgd))) | (refine gc_Y ?_ ?_ <;> intro _) | fail)
      (refine rt_Y (y := ()) (hrs := Tryd.results40) (hv := ?_) (hφ := ?_))
      · rfl
      · trivial
    | true =>
      rw [hb] at hns
      cases u1 : decide (ck < 1) with
      | true =>
        rw [hbad (by rw [hb, u1]; rfl)]
        repeat' (first | (refine go_Y ?_; intros) | (refine gs_Y ?_ ?_ <;> (intro hgd; try (simp only [Bool.not_true, Bool.not_false] at hgd))) | (refine gc_Y ?_ ?_ <;> intro _) | fail)
        refine cl_Y (hns) ?_
        intro _ _
        repeat' (first | (refine go_Y ?_; intros) | (refine gs_Y ?_ ?_ <;> (intro hgd; try (simp only [Bool.not_true, Bool.not_false] at hgd))) | (refine gc_Y ?_ ?_ <;> intro _) | fail)
        (refine rt_Y (y := ()) (hrs := Tryd.results40) (hv := ?_) (hφ := ?_))
        · rfl
        · trivial
      | false =>
        cases u2 : decide (5 < ck) with
        | true =>
          rw [hbad (by rw [hb, u1, u2]; rfl)]
          repeat' (first | (refine go_Y ?_; intros) | (refine gs_Y ?_ ?_ <;> (intro hgd; try (simp only [Bool.not_true, Bool.not_false] at hgd))) | (refine gc_Y ?_ ?_ <;> intro _) | fail)
          refine cl_Y (hns) ?_
          intro _ _
          repeat' (first | (refine go_Y ?_; intros) | (refine gs_Y ?_ ?_ <;> (intro hgd; try (simp only [Bool.not_true, Bool.not_false] at hgd))) | (refine gc_Y ?_ ?_ <;> intro _) | fail)
          (refine rt_Y (y := ()) (hrs := Tryd.results40) (hv := ?_) (hφ := ?_))
          · rfl
          · trivial
        | false =>
          repeat' (first | (refine go_Y ?_; intros) | (refine gs_Y ?_ ?_ <;> (intro hgd; try (simp only [Bool.not_true, Bool.not_false] at hgd))) | (refine gc_Y ?_ ?_ <;> intro _) | fail)
          rename_i b4
          refine cl_Y (hns) ?_
          intro _ _
          repeat' (first | (refine go_Y ?_; intros) | (refine gs_Y ?_ ?_ <;> (intro hgd; try (simp only [Bool.not_true, Bool.not_false] at hgd))) | (refine gc_Y ?_ ?_ <;> intro _) | fail)
          refine ok_map (L' := [pts b4 (.cells [.string cn, .int .u8 ck, .bool cb].toArray 118), pts b1 (.cells [.string tn, .slice (some ⟨bu, ou, none⟩) (cols.map coV).length cc, .int .i64 key, .int .i64 ref, .int .i64 par].toArray 84), A] ++ R) entD ?_
          refine ok_loop' (γ := Nat) (fun k ρ L => k ≤ i ∧ cn ∉ (cols.take k).map (·.name) ∧
              Knows ρ [(1, .pointer (some ⟨b1, 0, none⟩)), (3, .int .i64 i), (4, .pointer (some ⟨b4, 0, none⟩)), (5, .int .i64 k)] ∧
              L = [pts b4 (.cells [.string cn, .int .u8 ck, .bool cb].toArray 118), pts b1 (.cells [.string tn, .slice (some ⟨bu, ou, none⟩) (cols.map coV).length cc, .int .i64 key, .int .i64 ref, .int .i64 par].toArray 84), A] ++ R) (fun k => i - k)
            0 ⟨by omega, by simp, ⟨rfl, rfl, rfl, rfl, trivial⟩, rfl⟩ ?_
          rintro k ρ L ⟨hk1, hno, hk, rfl⟩
          refine ok_regs hk ?_
          cases t2 : decide ((k : Int) < (i : Int)) with
          | false =>
            have hke : k = i := by simp at t2; omega
            subst hke
            have hokc : okC ⟨cn, ck, cb⟩ = true := by simp only [okC, hb, u1, u2]; rfl
            repeat' (first | (refine go_Y ?_; intros) | (refine gs_Y ?_ ?_ <;> (intro hgd; try (simp only [Bool.not_true, Bool.not_false] at hgd))) | (refine gc_Y ?_ ?_ <;> intro _) | fail)
            refine cont_map (L' := [pts b1 (.cells [.string tn, .slice (some ⟨bu, ou, none⟩) (cols.map coV).length cc, .int .i64 key, .int .i64 ref, .int .i64 par].toArray 84), A] ++ R) entD ?_
            refine cont_back (k + 1) ⟨h, by rw [htk, List.all_append, hall]; simp [hokc], by rw [htk, List.map_append, List.nodup_append]; exact ⟨hnd, by simp, fun a ha b hb e => by rw [List.map_cons, List.map_nil, List.mem_singleton] at hb; subst hb; subst e; exact hno ha⟩, ⟨rfl, rfl, trivial⟩, rfl⟩ (by omega)
          | true =>
            have h2 : k < i := by simp at t2; omega
            have hck : cols[k]? = some (cols[k]'(by omega)) := List.getElem?_eq_getElem _
            have hy : (cols.map coV)[k]? = some (coV (cols[k]'(by omega))) := by rw [List.getElem?_map, hck]; rfl
            have hn2 : k < (cols.map coV).length := by omega
            have htk2 : cols.take (k + 1) = cols.take k ++ [cols[k]'(by omega)] := List.take_succ_eq_append_getElem _
            have hmi : (cols[k]'(by omega)) ∈ cols.take i := List.mem_of_getElem? (by rw [List.getElem?_take, if_pos h2]; exact hck)
            generalize (cols[k]'(by omega)) = d at hy htk2 hmi
            obtain ⟨dn, dk, db⟩ := d
            dsimp only [coV] at hy
            by_cases he : dn = cn
            · subst he
              obtain rfl : T = false := hdup (List.mem_map_of_mem (f := fun x : Co => x.name) hmi)
              have e1 : (dn.toList == dn.toList) = true := beq_self_eq_true _
              repeat' (first | (refine go_Y ?_; intros) | (refine gs_Y ?_ ?_ <;> (intro hgd; try (simp only [Bool.not_true, Bool.not_false] at hgd))) | (refine gc_Y ?_ ?_ <;> intro _) | fail)
              (refine rt_Y (y := ()) (hrs := Tryd.results40) (hv := ?_) (hφ := ?_))
              · rfl
              · trivial
            · have e1 := ba_ne he
              repeat' (first | (refine go_Y ?_; intros) | (refine gs_Y ?_ ?_ <;> (intro hgd; try (simp only [Bool.not_true, Bool.not_false] at hgd))) | (refine gc_Y ?_ ?_ <;> intro _) | fail)
              refine cont_map (L' := [pts b4 (.cells [.string cn, .int .u8 ck, .bool cb].toArray 118), pts b1 (.cells [.string tn, .slice (some ⟨bu, ou, none⟩) (cols.map coV).length cc, .int .i64 key, .int .i64 ref, .int .i64 par].toArray 84), A] ++ R) entD ?_
              refine cont_back (k + 1) ⟨h2, by rw [htk2, List.map_append, List.mem_append, not_or]; exact ⟨hno, by rw [List.map_cons, List.map_nil, List.mem_singleton]; exact fun e => he e.symm⟩, ⟨rfl, rfl, rfl, rfl, trivial⟩, rfl⟩ (by omega)
  | false =>
    have hie : i = cols.length := by simp at t1; omega
    rw [hie, List.take_length] at hall hnd
    have hT' : T = (decide ((1 : Int) ≤ (cols.length : Int)) && (decide ((cols.length : Int) ≤ 8) && (decide ((0 : Int) ≤ key) && (decide (key < (cols.length : Int)) && !(colAt cols key).null)))) := by
      rw [← hT]; unfold colsR; rw [hall, decide_eq_true hnd]; rfl
    clear hT
    rw [← hlm] at hT'
    cases v1 : decide ((1 : Int) ≤ ((cols.map coV).length : Int)) with
    | false =>
      obtain rfl : T = false := by rw [hT', v1]; rfl
      clear hT'
      repeat' (first | (refine go_Y ?_; intros) | (refine gs_Y ?_ ?_ <;> (intro hgd; try (simp only [Bool.not_true, Bool.not_false] at hgd))) | (refine gc_Y ?_ ?_ <;> intro _) | fail)
      (refine rt_Y (y := ()) (hrs := Tryd.results40) (hv := ?_) (hφ := ?_))
      · rfl
      · trivial
    | true =>
      cases v2 : decide (((cols.map coV).length : Int) ≤ 8) with
      | false =>
        obtain rfl : T = false := by rw [hT', v1, v2]; rfl
        clear hT'
        repeat' (first | (refine go_Y ?_; intros) | (refine gs_Y ?_ ?_ <;> (intro hgd; try (simp only [Bool.not_true, Bool.not_false] at hgd))) | (refine gc_Y ?_ ?_ <;> intro _) | fail)
        (refine rt_Y (y := ()) (hrs := Tryd.results40) (hv := ?_) (hφ := ?_))
        · rfl
        · trivial
      | true =>
        cases v3 : decide ((0 : Int) ≤ key) with
        | false =>
          obtain rfl : T = false := by rw [hT', v1, v2, v3]; rfl
          clear hT'
          repeat' (first | (refine go_Y ?_; intros) | (refine gs_Y ?_ ?_ <;> (intro hgd; try (simp only [Bool.not_true, Bool.not_false] at hgd))) | (refine gc_Y ?_ ?_ <;> intro _) | fail)
          (refine rt_Y (y := ()) (hrs := Tryd.results40) (hv := ?_) (hφ := ?_))
          · rfl
          · trivial
        | true =>
          cases v4 : decide (key < ((cols.map coV).length : Int)) with
          | false =>
            obtain rfl : T = false := by rw [hT', v1, v2, v3, v4]; rfl
            clear hT'
            repeat' (first | (refine go_Y ?_; intros) | (refine gs_Y ?_ ?_ <;> (intro hgd; try (simp only [Bool.not_true, Bool.not_false] at hgd))) | (refine gc_Y ?_ ?_ <;> intro _) | fail)
            (refine rt_Y (y := ()) (hrs := Tryd.results40) (hv := ?_) (hφ := ?_))
            · rfl
            · trivial
          | true =>
            have hT2 : T = !(colAt cols key).null := by rw [hT', v1, v2, v3, v4]; rfl
            clear hT'
            obtain ⟨m, rfl⟩ : ∃ m : Nat, key = m := ⟨key.toNat, by simp at v3; omega⟩
            have hm : m < cols.length := by simp at v4; omega
            rw [colAt_nat hm] at hT2
            have hci : cols[m]? = some cols[m] := List.getElem?_eq_getElem hm
            have hx : (cols.map coV)[m]? = some (coV cols[m]) := by rw [List.getElem?_map, hci]; rfl
            have hn1 : m < (cols.map coV).length := by omega
            refine ok_learn (VwIn.base (VwIn.there (VwIn.here hv)) (by intro e; rw [e] at hn1; simp at hn1)) ?_
            rintro ⟨bu, ou, rfl⟩
            generalize cols[m] = c at hx hT2
            obtain ⟨cn, ck, cb⟩ := c
            dsimp only [coV] at hx hT2
            subst hT2
            repeat' (first | (refine go_Y ?_; intros) | (refine gs_Y ?_ ?_ <;> (intro hgd; try (simp only [Bool.not_true, Bool.not_false] at hgd))) | (refine gc_Y ?_ ?_ <;> intro _) | fail)
            (refine rt_Y (y := ()) (hrs := Tryd.results40) (hv := ?_) (hφ := ?_))
            · rfl
            · trivial
end Go.Proofs.YtphaegcoldpclaaDoor
