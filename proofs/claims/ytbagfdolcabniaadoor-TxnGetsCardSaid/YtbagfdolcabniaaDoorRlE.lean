/- Package rel: New, place. -/
import Derived.Test.YtbagfdolcabniaaDoorRlD
-- @DEFS Y
set_option linter.unusedSimpArgs false
set_option linter.unusedVariables false
set_option maxRecDepth 100000
namespace Go.Proofs.YtbagfdolcabniaaDoor
open Go Go.Fx Go.Proofs Go.Pl

theorem placeS_delN {s : Sc} {k t : Int} {l : List Vl} (h : k = 3) (hl : l.length ≠ 1) : placeS s ⟨k, t, l⟩ = none := by
  unfold placeS
  rw [if_pos h]
  match l, hl with
  | [], _ => rfl
  | [v], h => exact absurd rfl h
  | _ :: _ :: _, _ => rfl
theorem placeS_del {s : Sc} {t : Int} {v : Vl} : placeS s ⟨3, t, [v]⟩ = if keyS s t v then some (t, v) else none := by
  unfold placeS
  rw [if_pos rfl]
theorem placeS_lay {s : Sc} {k t : Int} {l : List Vl} (h : ¬ k = 3) : placeS s ⟨k, t, l⟩ = if rowS s t l then some (t, Pl.keyOf s t l) else none := by
  unfold placeS
  rw [if_neg h]
theorem new_bad (vs : Value) (ts : List Tb) (A : HProp) (h : SV A vs ts) (hc : checkS (ts.map Tb.c) = false) :
    FSpec Tryd.prog 12 [.agg #[vs]] [A] Unit (fun _ => True) (fun _ => .tuple #[.pointer none, .int .i64 2]) (fun _ => [A]) := by
  have hs := sCheck_spec vs ts A h
  rw [hc, if_neg (by decide)] at hs
  refine spec_intro [] _ Tryd.func12 rfl Tryd.ntmps12 (by rfl) (fun w0 R => ?_)
  repeat' (first | (refine go_Y ?_; intros) | (refine gs_Y ?_ ?_ <;> (intro hgd; try (simp only [Bool.not_true, Bool.not_false] at hgd))) | (refine gc_Y ?_ ?_ <;> intro _) | fail)
  refine cl_Y (hs) ?_
  intro _ _
  repeat' (first | (refine go_Y ?_; intros) | (refine gs_Y ?_ ?_ <;> (intro hgd; try (simp only [Bool.not_true, Bool.not_false] at hgd))) | (refine gc_Y ?_ ?_ <;> intro _) | fail)
  (refine rt_Y (y := ()) (hrs := Tryd.results12) (hv := ?_) (hφ := ?_))
  · rfl
  · trivial
theorem new_spec (vs : Value) (ts : List Tb) (A : HProp) (h : SV A vs ts) (hc : checkS (ts.map Tb.c) = true) :
    FSpec Tryd.prog 12 [.agg #[vs]] [A] (Nat × HProp) (fun y => Ext A y.2) (fun y => .tuple #[.pointer (some ⟨y.1, 0, none⟩), .int .i64 0]) (fun y => [relP y.2 y.1 ⟨ts.map Tb.c, [], 0⟩, y.2]) := by
  have hs := sCheck_spec vs ts A h
  obtain ⟨ds, _, _, hl, _⟩ := checkS_ok hc
  rw [List.length_map] at hl
  rw [hc, if_pos rfl] at hs
  have hcl := relClone_spec vs ts A h hl
  refine spec_intro [] _ Tryd.func12 rfl Tryd.ntmps12 (by rfl) (fun w0 R => ?_)
  repeat' (first | (refine go_Y ?_; intros) | (refine gs_Y ?_ ?_ <;> (intro hgd; try (simp only [Bool.not_true, Bool.not_false] at hgd))) | (refine gc_Y ?_ ?_ <;> intro _) | fail)
  refine cl_Y (hs) ?_
  intro _ _
  repeat' (first | (refine go_Y ?_; intros) | (refine gs_Y ?_ ?_ <;> (intro hgd; try (simp only [Bool.not_true, Bool.not_false] at hgd))) | (refine gc_Y ?_ ?_ <;> intro _) | fail)
  refine cl_Y (hcl) ?_
  rintro ⟨⟨v, hv⟩, tk, P⟩ ⟨hsv, hmc, hext⟩
  dsimp only at hsv hmc hext ⊢
  have hsv' := hsv
  obtain ⟨_, _, _, ⟨p, len, cap, rfl, hcap⟩⟩ := hsv
  repeat' (first | (refine go_Y ?_; intros) | (refine gs_Y ?_ ?_ <;> (intro hgd; try (simp only [Bool.not_true, Bool.not_false] at hgd))) | (refine gc_Y ?_ ?_ <;> intro _) | fail)
  rename_i m b
  refine cont_map (fun _ h => rel_in (b := b) (r := ⟨ts.map Tb.c, [], 0⟩) (P := P) (vs := .slice p len cap) (ts := tk) (m := m) (es := []) ⟨rfl, hsv', hmc, .nil⟩ (Take.out takeD h)) ?_
  (refine rt_Y (y := (b, P)) (hrs := Tryd.results12) (hv := ?_) (hφ := ?_))
  · rfl
  · exact hext

set_option maxHeartbeats 2000000 in
theorem place_spec (b : Nat) (vs : Value) (m : Nat) (turns : Int) (ts : List Tb) (P : HProp) (o : Opr) (w : Value) (hvc : vs.oneCell' = true) (hsv : SV P vs ts) (hU : UT P) (hw : Vw P 4 w (o.row.map valV)) (hwf : ∀ v ∈ o.row, v.wf) (hlen : o.row.length ≤ 1000000) :
    FSpec Tryd.prog 56 [.pointer (some ⟨b, 0, none⟩), .agg #[.int .u8 o.kind, .int .i64 o.table, w]] [P, pts b (.cells [vs, .map (some m), .int .u64 turns].toArray 107)] Pc
      (fun q => ∀ p, placeS (ts.map Tb.c) o = some p → q = p) (fun q => .tuple #[.agg (placeV q).toArray, .int .i64 (bif (placeS (ts.map Tb.c) o).isSome then 0 else 2)]) (fun _ => [P, pts b (.cells [vs, .map (some m), .int .u64 turns].toArray 107)]) := by
  obtain ⟨kind, table, l⟩ := o
  dsimp only at hw hwf hlen ⊢
  have hll : (l.map valV).length = l.length := by simp
  have hrow := sRow_spec table l vs w ts P hsv hU hw hwf
  cases k3 : decide (kind = 3) with
  | true =>
    have e3 : kind = 3 := of_decide_eq_true k3
    subst e3
    cases n1 : (!decide (((l.map valV).length : Int) = 1)) with
    | true =>
      have hne : l.length ≠ 1 := by intro e; simp [e] at n1
      have hN := placeS_delN (s := ts.map Tb.c) (t := table) (k := 3) rfl hne
      rw [hN]
      refine spec_intro [] _ Tryd.func56 rfl Tryd.ntmps56 (by rfl) (fun w0 R => ?_)
      refine ok_learn (VwIn.slice (VwIn.here hw)) ?_
      rintro ⟨pw, cw, rfl⟩
      repeat' (first | (refine go_Y ?_; intros) | (refine gs_Y ?_ ?_ <;> (intro hgd; try (simp only [Bool.not_true, Bool.not_false] at hgd))) | (refine gc_Y ?_ ?_ <;> intro _) | fail)
      (refine rt_Y (y := (0, nul)) (hrs := Tryd.results56) (hv := ?_) (hφ := ?_))
      · rfl
      · intro p hp; cases hp
    | false =>
      have h1 : l.length = 1 := by simp at n1; omega
      match l, h1 with
      | [v], _ =>
        rw [placeS_del]
        have hv := hwf v (List.mem_singleton.2 rfl)
        have hkey := sKey_spec table v vs ts P hsv hU hv
        have hx : ([v].map valV)[0]? = some (valV v) := rfl
        obtain ⟨vk, vi, vr, vt⟩ := v
        dsimp only [valV] at hx hkey
        refine spec_intro [] _ Tryd.func56 rfl Tryd.ntmps56 (by rfl) (fun w0 R => ?_)
        refine ok_learn (VwIn.slice (VwIn.here hw)) ?_
        rintro ⟨pw, cw, rfl⟩
        refine ok_learn (VwIn.base (VwIn.here hw) (by simp)) ?_
        rintro ⟨bw, ow, rfl⟩
        repeat' (first | (refine go_Y ?_; intros) | (refine gs_Y ?_ ?_ <;> (intro hgd; try (simp only [Bool.not_true, Bool.not_false] at hgd))) | (refine gc_Y ?_ ?_ <;> intro _) | fail)
        rename_i b3 b4
        refine ok_map (L' := [P, pts b4 (.cells (placeV (0, nul)).toArray 113), pts b3 (.cells [.int .u8 3, .int .i64 table, .slice (some ⟨bw, ow, none⟩) ([(⟨vk, vi, vr, vt⟩ : Vl)].map valV).length cw].toArray 28), pts b (.cells [vs, .map (some m), .int .u64 turns].toArray 107)] ++ R) entD ?_
        have hlt : 0 < ([(⟨vk, vi, vr, vt⟩ : Vl)].map valV).length := by simp
        dsimp only [placeV, valV, nul]
        (apply ok_draw [17]; (focus (kernel_rfl)); (focus ((conv => lhs; whnf); first | done | rfl)); (focus (decide +kernel)); (focus (exact (fun _ h => h))))
        repeat' (first | (refine go_Y ?_; intros) | (refine gs_Y ?_ ?_ <;> (intro hgd; try (simp only [Bool.not_true, Bool.not_false] at hgd))) | (refine gc_Y ?_ ?_ <;> intro _) | fail)
        refine clN_Y (hkey) ?_
        intro _ _
        repeat' (first | (refine go_Y ?_; intros) | (refine gs_Y ?_ ?_ <;> (intro hgd; try (simp only [Bool.not_true, Bool.not_false] at hgd))) | (refine gc_Y ?_ ?_ <;> intro _) | fail)
        (refine rt_Y (y := (table, ⟨vk, vi, vr, vt⟩)) (hrs := Tryd.results56) (hv := ?_) (hφ := ?_))
        · cases keyS (ts.map Tb.c) table ⟨vk, vi, vr, vt⟩ <;> rfl
        · intro p hp
          split at hp
          · cases hp; rfl
          · cases hp
  | false =>
    have e3 : ¬ kind = 3 := of_decide_eq_false k3
    rw [placeS_lay e3]
    cases hr : rowS (ts.map Tb.c) table l with
    | false =>
      rw [hr, cond_false] at hrow
      rw [if_neg (by decide)]
      refine spec_intro [] _ Tryd.func56 rfl Tryd.ntmps56 (by rfl) (fun w0 R => ?_)
      repeat' (first | (refine go_Y ?_; intros) | (refine gs_Y ?_ ?_ <;> (intro hgd; try (simp only [Bool.not_true, Bool.not_false] at hgd))) | (refine gc_Y ?_ ?_ <;> intro _) | fail)
      refine cl_Y (hrow) ?_
      intro _ _
      repeat' (first | (refine go_Y ?_; intros) | (refine gs_Y ?_ ?_ <;> (intro hgd; try (simp only [Bool.not_true, Bool.not_false] at hgd))) | (refine gc_Y ?_ ?_ <;> intro _) | fail)
      (refine rt_Y (y := (0, nul)) (hrs := Tryd.results56) (hv := ?_) (hφ := ?_))
      · rfl
      · intro p hp; cases hp
    | true =>
      rw [hr, cond_true] at hrow
      rw [if_pos rfl]
      obtain ⟨hk1, hk2, hk3⟩ := rowS_key hr
      have hh : hasS (ts.map Tb.c) table = true := by simp only [rowS, Bool.and_eq_true] at hr; exact hr.1
      obtain ⟨tm, t, rfl, ht, hxt, htm, hta, hok, hmem⟩ := hasS_tb hh
      rw [hta] at hk2 hk3
      have k0 := hok.key0
      have kL := hok.keyL
      generalize hko : Pl.keyOf (ts.map Tb.c) (tm : Int) l = v at hk1 hk2
      obtain ⟨tn, cols, ⟨cv, hcv⟩, key, ref, par⟩ := t
      dsimp only [tbV, Tb.c] at hxt hk2 hk3 k0 kL
      obtain ⟨km, rfl⟩ : ∃ km : Nat, key = km := ⟨key.toNat, by omega⟩
      rw [Int.toNat_natCast] at hk2
      have hx : (l.map valV)[km]? = some (valV v) := by rw [List.getElem?_map, hk2]; rfl
      have hn1 : km < (l.map valV).length := by omega
      obtain ⟨vk, vi, vr, vt⟩ := v
      dsimp only [valV] at hx
      refine spec_intro [] _ Tryd.func56 rfl Tryd.ntmps56 (by rfl) (fun w0 R => ?_)
      refine ok_learn (VwIn.slice (VwIn.here hw)) ?_
      rintro ⟨pw, cw, rfl⟩
      refine ok_learn (VwIn.base (VwIn.here hw) (by intro e; rw [e] at hn1; simp at hn1)) ?_
      rintro ⟨bw, ow, rfl⟩
      have hv := hsv.vw
      refine ok_learn (VwIn.slice (VwIn.here hv)) ?_
      rintro ⟨pv, cv', rfl⟩
      refine ok_learn (VwIn.base (VwIn.here hv) (by intro e; rw [e] at htm; simp at htm)) ?_
      rintro ⟨bv, ov, rfl⟩
      repeat' (first | (refine go_Y ?_; intros) | (refine gs_Y ?_ ?_ <;> (intro hgd; try (simp only [Bool.not_true, Bool.not_false] at hgd))) | (refine gc_Y ?_ ?_ <;> intro _) | fail)
      refine cl_Y (hrow) ?_
      intro _ _
      repeat' (first | (refine go_Y ?_; intros) | (refine gs_Y ?_ ?_ <;> (intro hgd; try (simp only [Bool.not_true, Bool.not_false] at hgd))) | (refine gc_Y ?_ ?_ <;> intro _) | fail)
      (refine rt_Y (y := ((tm : Int), ⟨vk, vi, vr, vt⟩)) (hrs := Tryd.results56) (hv := ?_) (hφ := ?_))
      · rfl
      · intro p hp; cases hp; rfl
end Go.Proofs.YtbagfdolcabniaaDoor
