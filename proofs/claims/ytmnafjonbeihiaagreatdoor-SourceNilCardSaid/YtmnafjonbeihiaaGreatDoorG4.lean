import Derived.Test.YtmnafjonbeihiaaGreatDoorG4a
import Derived.Test.YtmnafjonbeihiaaGreatDoorG3
set_option linter.unusedSimpArgs false
set_option linter.unusedVariables false
set_option maxRecDepth 100000
namespace Go.Proofs.YtmnafjonbeihiaaGreatDoor
open Go Go.Fx Go.Proofs Go.Pl
theorem row_len {r : Rl} (h : r.Ok) {p : Pc} {l : List Vl} (ha : aget p r.rows = some l) : l.length ≤ 8 := by
  have hr := (h.rows _ (aget_mem ha)).row
  obtain ⟨_, _, h3⟩ := rowS_key hr
  simp only [rowS, Bool.and_eq_true] at hr
  obtain ⟨_, _, _, hok, _⟩ := hasS_tab hr.1
  have := hok.len
  dsimp only at h3
  omega
theorem put_len {r : Rl} (h : r.Ok) {p q : Pc} {row l : List Vl} (hz : row.length ≤ 1000000) (ha : aget q (aput p row r.rows) = some l) : l.length ≤ 1000000 := by
  rw [aget_put] at ha
  split at ha
  · cases ha; exact hz
  · have := row_len h ha; omega
theorem doOp_ins {r : Rl} {t : Int} {l : List Vl} : r.doOp ⟨1, t, l⟩ = Rl.doG Rl.ins r ⟨1, t, l⟩ := by
  unfold Rl.doOp Rl.doG
  rw [if_neg (by simp)]
  cases placeS r.s ⟨1, t, l⟩ with
  | none => rfl
  | some p =>
    unfold Rl.ins
    dsimp only
    by_cases h1 : (aget p r.rows).isSome = true
    · simp [h1]
    · by_cases h2 : 200 ≤ r.rows.length
      · simp [h1, h2]
      · have h1' : (aget p r.rows).isSome = false := by simpa using h1
        simp [h1', h2, aget_put]
theorem doOp_upd {r : Rl} {t : Int} {l : List Vl} : r.doOp ⟨2, t, l⟩ = Rl.doG Rl.upd r ⟨2, t, l⟩ := by
  unfold Rl.doOp Rl.doG
  rw [if_neg (by simp)]
  cases placeS r.s ⟨2, t, l⟩ with
  | none => rfl
  | some p =>
    unfold Rl.upd
    dsimp only
    cases h1 : (aget p r.rows).isSome with
    | true => simp [aget_put]
    | false => simp
theorem doOp_rem {r : Rl} (hok : r.Ok) {t : Int} {l : List Vl} : r.doOp ⟨3, t, l⟩ = Rl.doG Rl.rem r ⟨3, t, l⟩ := by
  unfold Rl.doOp Rl.doG
  rw [if_neg (by simp)]
  cases placeS r.s ⟨3, t, l⟩ with
  | none => rfl
  | some p =>
    unfold Rl.rem
    dsimp only
    cases h1 : (aget p r.rows).isSome with
    | true => simp [aget_del _ _ hok.nd]
    | false => simp
set_option maxHeartbeats 1000000 in
theorem Do_kind (b : Nat) (r : Rl) (o : Opr) (w : Value) (P : HProp) (h1 : o.kind ≠ 1) (h2 : o.kind ≠ 2) (h3 : o.kind ≠ 3) (hwc : w.oneCell' = true) :
    FSpec Tryz.prog 25 [.pointer (some ⟨b, 0, none⟩), .agg #[.int .u8 o.kind, .int .i64 o.table, w]] [relP P b r, P] Unit (fun _ => True) (fun y => .tuple #[.slice none 0 0, .slice none 0 0, .int .i64 2]) (fun _ => [relP P b r, P]) := by
  obtain ⟨kind, table, l⟩ := o
  dsimp only at h1 h2 h3 ⊢
  have hops := ops_spec
  have hk : getK (KInt .u8) kind [(1, fv 112), (2, fv 113), (3, fv 114)] = none := by
    simp only [getK]
    rw [if_neg h1, if_neg h2, if_neg h3]
  refine spec_intro [] _ Tryz.func25 rfl Tryz.ntmps25 (by rfl) (fun w0 R => ?_)
  repeat' (first | (refine gY ?_; intros) | (refine hY ?_ ?_ <;> (intro hgd; try simp only [bn] at hgd)) | (refine jY ?_ ?_ <;> intro _) | fail)
  rename_i b3
  refine ok_drawS (cv := []) [] [2] ([pts b3 (.cells [.int .u8 kind, .int .i64 table, w].toArray 24)]) _ (by kernel_rfl) rfl (by decide +kernel) (fun _ h => h) (takeS) ?_
  refine ops_run (s_callT (vs := []) (pre := []) .nil hops Take.nil rfl (fun _ _ _ h => takePre takeD _ h) rfl rfl ?_)
  intro mo _
  repeat' (first | (refine ro_Y ?_; intros) | fail)
  refine ops_run (a_lookupL (K := KInt .u8) rfl rfl rfl (MpIn.here (fun _ h => h)) hk rfl rfl ?_)
  repeat' (first | (refine gY ?_; intros) | (refine hY ?_ ?_ <;> (intro hgd; try simp only [bn] at hgd)) | (refine jY ?_ ?_ <;> intro _) | fail)
  (refine rt_Y (y := ()) (hrs := Tryz.results25) (hv := ?_) (hφ := ?_))
  · rfl
  · trivial
theorem relDo_spec (b : Nat) (r : Rl) (o : Opr) (w : Value) (P : HProp) (hok : r.Ok) (hU : UT P) (hw : Vw P 4 w (o.row.map valV)) (hwc : w.oneCell' = true) (hwf : ∀ v ∈ o.row, v.wf) (hlen : o.row.length ≤ 1000000) :
    FSpec Tryz.prog 25 [.pointer (some ⟨b, 0, none⟩), .agg #[.int .u8 o.kind, .int .i64 o.table, w]] [relP P b r, P] (V1s × V1s × HProp)
      (fun y => Ext P y.2.2 ∧ Vw y.2.2 4 y.1.1 ((r.doOp o).2.1.map valV)) (fun y => .tuple #[y.1.1, y.2.1.1, .int .i64 (r.doOp o).2.2.2])
      (fun y => [row 93 4 y.2.1.1 ((r.doOp o).2.2.1.map valV), relP y.2.2 b (r.doOp o).1, y.2.2]) := by
  by_cases h1 : o.kind = 1
  · obtain ⟨k, t, l⟩ := o
    dsimp only at h1 hw hwf hlen ⊢
    subst h1
    rw [doOp_ins]
    exact DoG_spec _ Rl.ins insert_spec b r ⟨1, t, l⟩ w P rfl hU hw hwc hwf hlen (fun p h => by
      unfold Rl.ins at h ⊢
      try dsimp only at h ⊢
      split
      · rfl
      · split
        · rfl
        · rename_i a c; rw [if_neg a, if_neg c] at h; exact absurd rfl h) (fun p l' h => by
      unfold Rl.ins at h
      try dsimp only at h
      split at h
      · have := row_len hok h; omega
      · split at h
        · have := row_len hok h; omega
        · exact put_len hok hlen h)
  by_cases h2 : o.kind = 2
  · obtain ⟨k, t, l⟩ := o
    dsimp only at h2 hw hwf hlen ⊢
    subst h2
    rw [doOp_upd]
    exact DoG_spec _ Rl.upd update_spec b r ⟨2, t, l⟩ w P rfl hU hw hwc hwf hlen (fun p h => by
      unfold Rl.upd at h ⊢
      try dsimp only at h ⊢
      split
      · rename_i a; rw [if_pos a] at h; exact absurd rfl h
      · rfl) (fun p l' h => by
      unfold Rl.upd at h
      try dsimp only at h
      split at h
      · exact put_len hok hlen h
      · have := row_len hok h; omega)
  by_cases h3 : o.kind = 3
  · obtain ⟨k, t, l⟩ := o
    dsimp only at h3 hw hwf hlen ⊢
    subst h3
    rw [doOp_rem hok]
    exact DoG_spec _ Rl.rem rlRemove_spec b r ⟨3, t, l⟩ w P rfl hU hw hwc hwf hlen (fun p h => by
      unfold Rl.rem at h ⊢
      try dsimp only at h ⊢
      split
      · rename_i a; rw [if_pos a] at h; exact absurd rfl h
      · rfl) (fun p l' h => by
      unfold Rl.rem at h
      try dsimp only at h
      split at h
      · rw [aget_del _ _ hok.nd] at h
        split at h
        · cases h
        · have := row_len hok h; omega
      · have := row_len hok h; omega)
  · have hD : r.doOp o = (r, [], [], 2) := by
      unfold Rl.doOp
      rw [if_pos ⟨h1, h2, h3⟩]
    rw [hD]
    exact (Do_kind b r o w P h1 h2 h3 hwc).conseq (fun _ _ s => s) (fun _ _ => ⟨(⟨.slice none 0 0, rfl⟩, ⟨.slice none 0 0, rfl⟩, P), ⟨Ext.refl P, vw_nil4⟩, rfl, fun R h s => nilRow s⟩)
theorem relTurns_spec (b : Nat) (r : Rl) (P : HProp) : FSpec Tryz.prog 94 [.pointer (some ⟨b, 0, none⟩)] [relP P b r] Unit (fun _ => True) (fun _ => .int .u64 r.turns) (fun _ => [relP P b r]) := by
  refine fspec_ex ?_
  rintro ⟨⟨vs, ts, m, es⟩, hy⟩
  unfold relL
  dsimp only
  refine spec_intro [] _ Tryz.func94 rfl Tryz.ntmps94 (by rfl) (fun w0 R => ?_)
  repeat' (first | (refine gY ?_; intros) | (refine hY ?_ ?_ <;> (intro hgd; try simp only [bn] at hgd)) | (refine jY ?_ ?_ <;> intro _) | fail)
  refine cont_map (fun _ h => rel_in (b := b) (r := r) hy (Take.out takeD h)) ?_
  (refine rt_Y (y := ()) (hrs := Tryz.results94) (hv := ?_) (hφ := ?_))
  · rfl
  · trivial
theorem EsOk.mem {P : HProp} {p : Pc} {v : Value} {es : List (Pc × Value)} {rows : RR} (h : EsOk P es rows) (hm : (p, v) ∈ es) : ∃ l, (p, l) ∈ rows ∧ Vw P 4 v (l.map valV) := by
  induction h with
  | nil => cases hm
  | @cons a u k es rows h hs ih =>
    rcases List.mem_cons.1 hm with e | hm
    · cases e; exact ⟨k, List.mem_cons_self .., h⟩
    · obtain ⟨l, hl, hv⟩ := ih hm; exact ⟨l, List.mem_cons_of_mem _ hl, hv⟩
theorem EsOk.memR {P : HProp} {p : Pc} {l : List Vl} {es : List (Pc × Value)} {rows : RR} (h : EsOk P es rows) (hm : (p, l) ∈ rows) : ∃ v, (p, v) ∈ es := by
  induction h with
  | nil => cases hm
  | @cons a u k es rows h hs ih =>
    rcases List.mem_cons.1 hm with e | hm
    · cases e; exact ⟨u, List.mem_cons_self ..⟩
    · obtain ⟨v, hv⟩ := ih hm; exact ⟨v, List.mem_cons_of_mem _ hv⟩
theorem row_uniq {r : Rl} (h : r.Ok) {p : Pc} {l k : List Vl} (h1 : (p, l) ∈ r.rows) (h2 : (p, k) ∈ r.rows) : l = k := by
  have key : ∀ (rows : RR), (rows.map (·.1)).Nodup → (p, l) ∈ rows → aget p rows = some l := by
    intro rows
    induction rows with
    | nil => intro _ h; cases h
    | cons x rows ih =>
      intro hn hm
      obtain ⟨a, m⟩ := x
      simp only [List.map_cons, List.nodup_cons] at hn
      rcases List.mem_cons.1 hm with e | hm
      · cases e; simp [aget]
      · have : p ≠ a := fun e => hn.1 (by rw [← e]; exact List.mem_map_of_mem (f := (·.1)) hm)
        simp only [aget]; rw [if_neg this]; exact ih hn.2 hm
  have key2 : ∀ (rows : RR), (rows.map (·.1)).Nodup → (p, k) ∈ rows → aget p rows = some k := by
    intro rows
    induction rows with
    | nil => intro _ h; cases h
    | cons x rows ih =>
      intro hn hm
      obtain ⟨a, m⟩ := x
      simp only [List.map_cons, List.nodup_cons] at hn
      rcases List.mem_cons.1 hm with e | hm
      · cases e; simp [aget]
      · have : p ≠ a := fun e => hn.1 (by rw [← e]; exact List.mem_map_of_mem (f := (·.1)) hm)
        simp only [aget]; rw [if_neg this]; exact ih hn.2 hm
  have e1 := key _ h.nd h1
  have e2 := key2 _ h.nd h2
  rw [e1] at e2; exact Option.some.inj e2
set_option maxHeartbeats 4000000 in
theorem relWhole_spec (b : Nat) (r : Rl) (P : HProp) (hok : r.Ok) : FSpec Tryz.prog 26 [.pointer (some ⟨b, 0, none⟩)] [relP P b r, P] Unit (fun _ => True) (fun _ => .int .i64 (bif r.whole then 0 else 140)) (fun _ => [relP P b r, P]) := by
  refine fspec_ex ?_
  rintro ⟨⟨vs, ts, m, es⟩, hy⟩
  have hy' := hy
  obtain ⟨hvc, hsv, hss, hes⟩ := hy
  dsimp only at hvc hsv hss hes
  unfold relL
  dsimp only
  have hv := hsv.vw
  refine spec_intro [] _ Tryz.func26 rfl Tryz.ntmps26 (by rfl) (fun w0 R => ?_)
  refine ok_learn (VwIn.slice (VwIn.there (VwIn.there (VwIn.here hv)))) ?_
  rintro ⟨pv, cv, rfl⟩
  repeat' (first | (refine gY ?_; intros) | (refine hY ?_ ?_ <;> (intro hgd; try simp only [bn] at hgd)) | (refine jY ?_ ?_ <;> intro _) | fail)
  rename_i it
  refine ok_loop' (γ := List (Pc × Value)) (fun rem ρ L => ∃ (cur : Option (Pc × Value)), (∀ x ∈ rem, x ∈ es) ∧ (∀ x ∈ es, x ∈ rem ∨ ∀ l, (x.1, l) ∈ r.rows → refOk r.s r.rows (x.1, l) = true) ∧ Knows ρ [(0, .pointer (some ⟨b, 0, none⟩)), (2, .int .i64 0), (14, .pointer (some ⟨it, 0, none⟩))] ∧ L = [rangeK KPlace it m es rem cur, pts b (.cells [.slice pv (ts.map tbV).length cv, .map (some m), .int .u64 r.turns].toArray 129), P] ++ R) (fun rem => rem.length) es
    ⟨none, fun _ h => h, fun _ h => .inl h, ⟨rfl, rfl, rfl, trivial⟩, rfl⟩ ?_
  rintro rem ρ L ⟨cur, hsub, hdone, hk, rfl⟩
  refine ok_regs hk ?_
  repeat' (first | (refine gY ?_; intros) | (refine hY ?_ ?_ <;> (intro hgd; try simp only [bn] at hgd)) | (refine jY ?_ ?_ <;> intro _) | fail)
  refine nx_Y ?_ ?_
  · intro hrem
    subst hrem
    have hw : r.whole = true := by
      unfold Rl.whole
      rw [List.all_eq_true]
      rintro ⟨p, l⟩ hm
      obtain ⟨v, hv⟩ := hes.memR hm
      exact ((hdone _ hv).resolve_left (by simp)) l hm
    rw [hw, cond_true]
    repeat' (first | (refine gY ?_; intros) | (refine hY ?_ ?_ <;> (intro hgd; try simp only [bn] at hgd)) | (refine jY ?_ ?_ <;> intro _) | fail)
    refine cont_map (fun _ h => (Take.out1 (A := rangeK KPlace it m es [] cur) takeD h).headMono fun _ h => rangeK.map h) ?_
    refine cont_map (fun _ h => rel_in (b := b) (r := r) hy' (Take.out takeD h)) ?_
    (refine rt_Y (y := ()) (hrs := Tryz.results26) (hv := ?_) (hφ := ?_))
    · rfl
    · trivial
  · intro x pre post hrem
    subst hrem
    have hxm : x ∈ es := hsub x (by simp)
    have hsub2 : ∀ y ∈ pre ++ post, y ∈ es := fun y hy => hsub y (by rcases List.mem_append.1 hy with h | h <;> simp [h])
    have hdone2 : (∀ l, (x.1, l) ∈ r.rows → refOk r.s r.rows (x.1, l) = true) → ∀ y ∈ es, y ∈ pre ++ post ∨ ∀ l, (y.1, l) ∈ r.rows → refOk r.s r.rows (y.1, l) = true := fun hx y hy => by
      rcases hdone y hy with h | h
      · rcases List.mem_append.1 h with h | h
        · exact .inl (List.mem_append_left _ h)
        · rcases List.mem_cons.1 h with e | h
          · subst e; exact .inr hx
          · exact .inl (List.mem_append_right _ h)
      · exact .inr h
    obtain ⟨p, v⟩ := x
    obtain ⟨l, hlm, hvl⟩ := hes.mem hxm
    have hro := (hok.rows _ hlm).row
    have hun := fun k (hk : (p, k) ∈ r.rows) => row_uniq hok hlm hk
    have hgo : refOk r.s r.rows (p, l) = true → ∀ y ∈ es, y ∈ pre ++ post ∨ ∀ l, (y.1, l) ∈ r.rows → refOk r.s r.rows (y.1, l) = true := fun h => hdone2 (fun k hk => by rw [← hun k hk]; exact h)
    have hno : refOk r.s r.rows (p, l) = false → r.whole = false := fun h => List.all_eq_false.2 ⟨_, hlm, by simp [h]⟩
    clear hdone hdone2 hun
    obtain ⟨t, ⟨k, i, rr, s⟩⟩ := p
    dsimp only at hro
    obtain ⟨_, _, hlen⟩ := rowS_key hro
    have hh : hasS (ts.map Tb.c) t = true := by rw [hss]; simp only [rowS, Bool.and_eq_true] at hro; exact hro.1
    obtain ⟨tm, tb, rfl, ht, hxt, htm, hta, htok, hmem⟩ := hasS_tb hh
    have hrl := htok.refL
    have hrd : refOk r.s r.rows (((tm : Int), ⟨k, i, rr, s⟩), l) = (if tb.c.ref < 0 then true else if ((l[tb.c.ref.toNat]?).getD default).kind = 0 then true else (aget (tb.c.par, (l[tb.c.ref.toNat]?).getD default) r.rows).isSome) := by
      unfold refOk
      dsimp only
      rw [← hss, hta]
    have hg1 := fun (h : tb.c.ref < 0) => hrd.trans (if_pos h)
    have hg2 := fun (h : ¬ tb.c.ref < 0) (h' : ((l[tb.c.ref.toNat]?).getD default).kind = 0) => hrd.trans ((if_neg h).trans (if_pos h'))
    have hg3 := fun (h : ¬ tb.c.ref < 0) (h' : ¬ ((l[tb.c.ref.toNat]?).getD default).kind = 0) => hrd.trans ((if_neg h).trans (if_neg h'))
    rw [← hss, hta] at hlen
    clear hrd
    generalize refOk r.s r.rows (((tm : Int), ⟨k, i, rr, s⟩), l) = ro at hgo hno hg1 hg2 hg3
    obtain ⟨tn, cols, ⟨cv', hcv'⟩, key, ref, par⟩ := tb
    dsimp only [tbV, Tb.c] at hxt hlen hrl hg1 hg2 hg3
    refine ops_learn (VwIn.slice (n := 4) (v := v) (xs := l.map valV) (VwIn.there (VwIn.there (VwIn.here hvl)))) ?_
    rintro ⟨pl, cl, rfl⟩
    refine ops_learn (VwIn.base (n := 5) (p := pv) (len := (ts.map tbV).length) (cap := cv) (xs := ts.map tbV) (VwIn.there (VwIn.there (VwIn.here hv))) (by intro e; rw [e] at htm; simp at htm)) ?_
    rintro ⟨bv, ov, rfl⟩
    cases n1 : decide (ref < 0) with
    | true =>
      have hg := hgo (hg1 (of_decide_eq_true n1))
      repeat' (first | (refine gY ?_; intros) | (refine hY ?_ ?_ <;> (intro hgd; try simp only [bn] at hgd)) | (refine jY ?_ ?_ <;> intro _) | fail)
      (apply ok_draw [9]; (focus (kernel_rfl)); (focus ((conv => lhs; whnf); first | done | rfl)); (focus (decide +kernel)); (focus (exact (fun _ h => h))))
      repeat' (first | (refine gY ?_; intros) | (refine hY ?_ ?_ <;> (intro hgd; try simp only [bn] at hgd)) | (refine jY ?_ ?_ <;> intro _) | fail)
      refine cont_map (L' := [rangeK KPlace it m es (pre ++ post) (some (((tm : Int), ⟨k, i, rr, s⟩), .slice pl (l.map valV).length cl)), pts b (.cells [.slice (some ⟨bv, ov, none⟩) (ts.map tbV).length cv, .map (some m), .int .u64 r.turns].toArray 129), P] ++ R) entD ?_
      refine cont_back (pre ++ post) ⟨_, hsub2, hg, ⟨rfl, rfl, rfl, trivial⟩, rfl⟩ (by simp)
    | false =>
      have hr0 := of_decide_eq_false n1
      obtain ⟨rm, rfl⟩ : ∃ rm : Nat, ref = rm := ⟨ref.toNat, by omega⟩
      have hrm : rm < l.length := by omega
      have hli : l[rm]? = some l[rm] := List.getElem?_eq_getElem hrm
      have hgd : (l[((rm : Nat) : Int).toNat]?).getD default = l[rm] := by rw [Int.toNat_natCast, hli]; rfl
      have hxr : (l.map valV)[rm]? = some (valV l[rm]) := by rw [List.getElem?_map, hli]; rfl
      have hnr : rm < (l.map valV).length := by rw [List.length_map]; exact hrm
      rw [hgd] at hg2 hg3
      generalize l[rm] = u at hxr hg2 hg3
      obtain ⟨uk, ui, ur, us⟩ := u
      dsimp only [valV] at hxr hg2 hg3
      refine ops_learn (VwIn.base (n := 4) (p := pl) (len := (l.map valV).length) (cap := cl) (xs := l.map valV) (VwIn.there (VwIn.there (VwIn.here hvl))) (by intro e; rw [e] at hnr; simp at hnr)) ?_
      rintro ⟨bl, ol, rfl⟩
      cases n2 : decide (uk = 0) with
      | true =>
        have hg := hgo (hg2 hr0 (of_decide_eq_true n2))
        repeat' (first | (refine gY ?_; intros) | (refine hY ?_ ?_ <;> (intro hgd; try simp only [bn] at hgd)) | (refine jY ?_ ?_ <;> intro _) | fail)
        (apply ok_draw [9]; (focus (kernel_rfl)); (focus ((conv => lhs; whnf); first | done | rfl)); (focus (decide +kernel)); (focus (exact (fun _ h => h))))
        repeat' (first | (refine gY ?_; intros) | (refine hY ?_ ?_ <;> (intro hgd; try simp only [bn] at hgd)) | (refine jY ?_ ?_ <;> intro _) | fail)
        refine cont_map (L' := [rangeK KPlace it m es (pre ++ post) (some (((tm : Int), ⟨k, i, rr, s⟩), .slice (some ⟨bl, ol, none⟩) (l.map valV).length cl)), pts b (.cells [.slice (some ⟨bv, ov, none⟩) (ts.map tbV).length cv, .map (some m), .int .u64 r.turns].toArray 129), P] ++ R) entD ?_
        refine cont_back (pre ++ post) ⟨_, hsub2, hg, ⟨rfl, rfl, rfl, trivial⟩, rfl⟩ (by simp)
      | false =>
        have hro3 := hg3 hr0 (of_decide_eq_false n2)
        rcases hes.get (p := (par, ⟨uk, ui, ur, us⟩)) with ⟨hg, ha⟩ | ⟨v2, l2, hg, ha, hv2⟩
        · rw [ha] at hro3
          rw [hno (hro3.trans rfl), cond_false]
          repeat' (first | (refine gY ?_; intros) | (refine hY ?_ ?_ <;> (intro hgd; try simp only [bn] at hgd)) | (refine jY ?_ ?_ <;> intro _) | fail)
          (apply ok_draw [9]; (focus (kernel_rfl)); (focus ((conv => lhs; whnf); first | done | rfl)); (focus (decide +kernel)); (focus (exact (fun _ h => h))))
          repeat' (first | (refine gY ?_; intros) | (refine hY ?_ ?_ <;> (intro hgd; try simp only [bn] at hgd)) | (refine jY ?_ ?_ <;> intro _) | fail)
          refine cont_map (fun _ h => (Take.out1 (A := rangeK KPlace it m es (pre ++ post) (some (((tm : Int), ⟨k, i, rr, s⟩), .slice (some ⟨bl, ol, none⟩) (l.map valV).length cl))) takeD h).headMono fun _ h => rangeK.map h) ?_
          refine cont_map (fun _ h => rel_in (b := b) (r := r) hy' (Take.out takeD h)) ?_
          (refine rt_Y (y := ()) (hrs := Tryz.results26) (hv := ?_) (hφ := ?_))
          · rfl
          · trivial
        · rw [ha] at hro3
          have hg' := hgo (hro3.trans rfl)
          repeat' (first | (refine gY ?_; intros) | (refine hY ?_ ?_ <;> (intro hgd; try simp only [bn] at hgd)) | (refine jY ?_ ?_ <;> intro _) | fail)
          (apply ok_draw [9]; (focus (kernel_rfl)); (focus ((conv => lhs; whnf); first | done | rfl)); (focus (decide +kernel)); (focus (exact (fun _ h => h))))
          repeat' (first | (refine gY ?_; intros) | (refine hY ?_ ?_ <;> (intro hgd; try simp only [bn] at hgd)) | (refine jY ?_ ?_ <;> intro _) | fail)
          refine cont_map (L' := [rangeK KPlace it m es (pre ++ post) (some (((tm : Int), ⟨k, i, rr, s⟩), .slice (some ⟨bl, ol, none⟩) (l.map valV).length cl)), pts b (.cells [.slice (some ⟨bv, ov, none⟩) (ts.map tbV).length cv, .map (some m), .int .u64 r.turns].toArray 129), P] ++ R) entD ?_
          refine cont_back (pre ++ post) ⟨_, hsub2, hg', ⟨rfl, rfl, rfl, trivial⟩, rfl⟩ (by simp)
end Go.Proofs.YtmnafjonbeihiaaGreatDoor
