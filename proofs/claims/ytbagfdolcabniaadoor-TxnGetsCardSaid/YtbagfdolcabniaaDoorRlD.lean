/- Package rel: a state in memory; insert, update, remove, ops. -/
import Derived.Test.YtbagfdolcabniaaDoorRlC
-- @DEFS Y
set_option linter.unusedSimpArgs false
set_option linter.unusedVariables false
set_option maxRecDepth 100000
namespace Go.Proofs.YtbagfdolcabniaaDoor
open Go Go.Fx Go.Proofs Go.Pl

/-- Entries of a map, and the rows that they are. -/
inductive EsOk (P : HProp) : List (Pc × Value) → RR → Prop
  | nil : EsOk P [] []
  | cons {a : Pc} {v : Value} {l : List Vl} {es : List (Pc × Value)} {rows : RR} (h : Vw P 4 v (l.map valV)) (hs : EsOk P es rows) : EsOk P ((a, v) :: es) ((a, l) :: rows)
theorem EsOk.ext {P P' : HProp} (a : Ext P P') {es : List (Pc × Value)} {rows : RR} (h : EsOk P es rows) : EsOk P' es rows := by
  induction h with
  | nil => exact .nil
  | cons h _ ih => exact .cons (a.vw h) ih
theorem EsOk.len {P : HProp} {es : List (Pc × Value)} {rows : RR} (h : EsOk P es rows) : es.length = rows.length := by
  induction h with
  | nil => rfl
  | cons _ _ ih => simp [ih]
theorem EsOk.get {P : HProp} {p : Pc} {es : List (Pc × Value)} {rows : RR} (h : EsOk P es rows) : (getK KPlace p es = none ∧ aget p rows = none) ∨ ∃ v l, getK KPlace p es = some v ∧ aget p rows = some l ∧ Vw P 4 v (l.map valV) := by
  induction h with
  | nil => exact .inl ⟨rfl, rfl⟩
  | @cons a v l es rows h hs ih =>
    simp only [getK, aget]
    by_cases hp : p = a
    · rw [if_pos hp, if_pos hp]; exact .inr ⟨v, l, rfl, rfl, h⟩
    · rw [if_neg hp, if_neg hp]; exact ih
theorem EsOk.put {P : HProp} {p : Pc} {v : Value} {l : List Vl} (hv : Vw P 4 v (l.map valV)) {es : List (Pc × Value)} {rows : RR} (h : EsOk P es rows) : EsOk P (putK KPlace p v es) (aput p l rows) := by
  induction h with
  | nil => exact .cons hv .nil
  | @cons a u k es rows h hs ih =>
    simp only [putK, aput]
    by_cases hp : p = a
    · rw [if_pos hp, if_pos hp]; exact .cons hv hs
    · rw [if_neg hp, if_neg hp]; exact .cons h ih
theorem EsOk.del {P : HProp} {p : Pc} {es : List (Pc × Value)} {rows : RR} (h : EsOk P es rows) : EsOk P (delK KPlace p es) (adel p rows) := by
  induction h with
  | nil => exact .nil
  | @cons a u k es rows h hs ih =>
    simp only [delK, adel]
    by_cases hp : p = a
    · rw [if_pos hp, if_pos hp]; exact hs
    · rw [if_neg hp, if_neg hp]; exact .cons h ih

structure RlY where
  vs : Value
  ts : List Tb
  m : Nat
  es : List (Pc × Value)
structure RlOK (P : HProp) (r : Rl) (y : RlY) : Prop where
  vc : y.vs.oneCell' = true
  sv : SV P y.vs y.ts
  s : y.ts.map Tb.c = r.s
  es : EsOk P y.es r.rows
def relC (b : Nat) (vs : Value) (m : Nat) (turns : Int) : HProp := pts b (.cells [vs, .map (some m), .int .u64 turns].toArray 107)
/-- A state in memory; P: the pool. -/
def relL (P : HProp) (b : Nat) (r : Rl) (y : { y : RlY // RlOK P r y }) : List HProp := [pts b (.cells [y.1.vs, .map (some y.1.m), .int .u64 r.turns].toArray 107), mapK KPlace y.1.m y.1.es]
def relP (P : HProp) (b : Nat) (r : Rl) : HProp := exP (relL P b r)
theorem rel_in {P : HProp} {b : Nat} {r : Rl} {vs : Value} {ts : List Tb} {m : Nat} {es : List (Pc × Value)} (hy : RlOK P r ⟨vs, ts, m, es⟩) {L : List HProp} {h : Frag} (s : SatL ([pts b (.cells [vs, .map (some m), .int .u64 r.turns].toArray 107), mapK KPlace m es] ++ L) h) : SatL (relP P b r :: L) h :=
  ex_in (M := relL P b r) ⟨⟨vs, ts, m, es⟩, hy⟩ rfl s
theorem RlOK.ext {P P' : HProp} (a : Ext P P') {r : Rl} {y : RlY} (h : RlOK P r y) : RlOK P' r y := ⟨h.vc, h.sv.ext a, h.s, h.es.ext a⟩
theorem relP_ext {P P' : HProp} (a : Ext P P') {b : Nat} {r : Rl} {L : List HProp} {h : Frag} (s : SatL (relP P b r :: L) h) : SatL (relP P' b r :: L) h :=
  s.headMono fun _ ⟨y, hy⟩ => ⟨⟨y.1, y.2.ext a⟩, hy⟩

def Rl.ins (r : Rl) (p : Pc) (l : List Vl) : Rl × Int := if (aget p r.rows).isSome then (r, 9) else if 200 ≤ r.rows.length then (r, 4) else ({ r with rows := aput p l r.rows }, 0)
def Rl.upd (r : Rl) (p : Pc) (l : List Vl) : Rl × Int := if (aget p r.rows).isSome then ({ r with rows := aput p l r.rows }, 0) else (r, 3)
def Rl.rem (r : Rl) (p : Pc) (l : List Vl) : Rl × Int := if (aget p r.rows).isSome then ({ r with rows := adel p r.rows }, 0) else (r, 3)
/-- The contract of what each kind of an op does. -/
def ActSpec (f : FuncId) (op : Rl → Pc → List Vl → Rl × Int) : Prop := ∀ (P : HProp) (b : Nat) (r : Rl) (p : Pc) (l : List Vl) (w : Value), Vw P 4 w (l.map valV) → l.length ≤ 1000000 →
  FSpec Tryd.prog f [.pointer (some ⟨b, 0, none⟩), .agg (placeV p).toArray, w] [relP P b r, P] HProp (fun P' => Ext P P') (fun _ => .int .i64 (op r p l).2) (fun P' => [relP P' b (op r p l).1, P'])

set_option maxHeartbeats 1000000 in
theorem insert_spec : ActSpec 96 Rl.ins := by
  intro P b r p l w hw hl
  refine fspec_ex ?_
  rintro ⟨⟨vs, ts, m, es⟩, hy⟩
  have hy' := hy
  obtain ⟨hvc, hsv, hss, hes⟩ := hy
  dsimp only at hvc hsv hss hes
  unfold relL
  dsimp only
  have hget := hes.get (p := p)
  have hlen := hes.len
  have hcl := cloneV_spec w P l hw hl
  have hput := fun P' (a : Ext P P') v (hv : Vw P' 4 v (l.map valV)) => (hes.ext a).put (p := p) hv
  unfold Rl.ins
  obtain ⟨t, ⟨k, i, rr, s⟩⟩ := p
  dsimp only [placeV, valV]
  rcases hget with ⟨hg, ha⟩ | ⟨v, l', hg, ha, hv⟩
  · rw [ha]
    simp only [Option.isSome_none, Bool.false_eq_true, if_false]
    cases n1 : decide ((200 : Int) ≤ (es.length : Int)) with
    | true =>
      rw [if_pos (by have := of_decide_eq_true n1; omega)]
      refine spec_intro [] _ Tryd.func96 rfl Tryd.ntmps96 (by rfl) (fun w0 R => ?_)
      repeat' (first | (refine go_Y ?_; intros) | (refine gs_Y ?_ ?_ <;> (intro hgd; try (simp only [Bool.not_true, Bool.not_false] at hgd))) | (refine gc_Y ?_ ?_ <;> intro _) | fail)
      refine cont_map (fun _ h => rel_in (b := b) (r := r) hy' (Take.out takeD h)) ?_
      (refine rt_Y (y := P) (hrs := Tryd.results96) (hv := ?_) (hφ := ?_))
      · rfl
      · exact Ext.refl P
    | false =>
      rw [if_neg (by have := of_decide_eq_false n1; omega)]
      refine spec_intro [] _ Tryd.func96 rfl Tryd.ntmps96 (by rfl) (fun w0 R => ?_)
      repeat' (first | (refine go_Y ?_; intros) | (refine gs_Y ?_ ?_ <;> (intro hgd; try (simp only [Bool.not_true, Bool.not_false] at hgd))) | (refine gc_Y ?_ ?_ <;> intro _) | fail)
      rename_i b4
      refine ok_map (L' := [P, pts b4 (.cells [.int .i64 t, .int .u8 k, .int .i64 i, .int .u64 rr, .string s].toArray 113), pts b (.cells [vs, .map (some m), .int .u64 r.turns].toArray 107), mapK KPlace m es] ++ R) entD ?_
      (apply ok_draw [6]; (focus (kernel_rfl)); (focus ((conv => lhs; whnf); first | done | rfl)); (focus (decide +kernel)); (focus (exact (fun _ h => h))))
      repeat' (first | (refine go_Y ?_; intros) | (refine gs_Y ?_ ?_ <;> (intro hgd; try (simp only [Bool.not_true, Bool.not_false] at hgd))) | (refine gc_Y ?_ ?_ <;> intro _) | fail)
      refine clN_Y (hcl) ?_
      rintro ⟨vn, hvn⟩ _
      repeat' (first | (refine go_Y ?_; intros) | (refine gs_Y ?_ ?_ <;> (intro hgd; try (simp only [Bool.not_true, Bool.not_false] at hgd))) | (refine gc_Y ?_ ?_ <;> intro _) | fail)
      refine cont_map (fun _ h => pool_in (A := row 31 4 vn (l.map valV)) (P := P) (Take.out2 takeD h)) ?_
      refine cont_map (fun _ h => rel_in (b := b) (r := { r with rows := aput (t, ⟨k, i, rr, s⟩) l r.rows }) (P := pool (row 31 4 vn (l.map valV)) P) (vs := vs) (ts := ts) (m := m) (es := putK KPlace (t, ⟨k, i, rr, s⟩) vn es) ⟨hvc, hsv.ext (Ext.pool _ _), hss, hput _ (Ext.pool _ _) vn pool_row⟩ (Take.out takeD h)) ?_
      (refine rt_Y (y := pool (row 31 4 vn (l.map valV)) P) (hrs := Tryd.results96) (hv := ?_) (hφ := ?_))
      · rfl
      · exact Ext.pool _ _
  · rw [ha]
    simp only [Option.isSome_some, if_true]
    refine spec_intro [] _ Tryd.func96 rfl Tryd.ntmps96 (by rfl) (fun w0 R => ?_)
    repeat' (first | (refine go_Y ?_; intros) | (refine gs_Y ?_ ?_ <;> (intro hgd; try (simp only [Bool.not_true, Bool.not_false] at hgd))) | (refine gc_Y ?_ ?_ <;> intro _) | fail)
    refine cont_map (fun _ h => rel_in (b := b) (r := r) hy' (Take.out takeD h)) ?_
    (refine rt_Y (y := P) (hrs := Tryd.results96) (hv := ?_) (hφ := ?_))
    · rfl
    · exact Ext.refl P
set_option maxHeartbeats 1000000 in
theorem update_spec : ActSpec 97 Rl.upd := by
  intro P b r p l w hw hl
  refine fspec_ex ?_
  rintro ⟨⟨vs, ts, m, es⟩, hy⟩
  have hy' := hy
  obtain ⟨hvc, hsv, hss, hes⟩ := hy
  dsimp only at hvc hsv hss hes
  unfold relL
  dsimp only
  have hget := hes.get (p := p)
  have hcl := cloneV_spec w P l hw hl
  have hput := fun P' (a : Ext P P') v (hv : Vw P' 4 v (l.map valV)) => (hes.ext a).put (p := p) hv
  unfold Rl.upd
  obtain ⟨t, ⟨k, i, rr, s⟩⟩ := p
  dsimp only [placeV, valV]
  rcases hget with ⟨hg, ha⟩ | ⟨v, l', hg, ha, hv⟩
  · rw [ha]
    simp only [Option.isSome_none, Bool.false_eq_true, if_false]
    refine spec_intro [] _ Tryd.func97 rfl Tryd.ntmps97 (by rfl) (fun w0 R => ?_)
    repeat' (first | (refine go_Y ?_; intros) | (refine gs_Y ?_ ?_ <;> (intro hgd; try (simp only [Bool.not_true, Bool.not_false] at hgd))) | (refine gc_Y ?_ ?_ <;> intro _) | fail)
    refine cont_map (fun _ h => rel_in (b := b) (r := r) hy' (Take.out takeD h)) ?_
    (refine rt_Y (y := P) (hrs := Tryd.results97) (hv := ?_) (hφ := ?_))
    · rfl
    · exact Ext.refl P
  · rw [ha]
    simp only [Option.isSome_some, if_true]
    refine spec_intro [] _ Tryd.func97 rfl Tryd.ntmps97 (by rfl) (fun w0 R => ?_)
    repeat' (first | (refine go_Y ?_; intros) | (refine gs_Y ?_ ?_ <;> (intro hgd; try (simp only [Bool.not_true, Bool.not_false] at hgd))) | (refine gc_Y ?_ ?_ <;> intro _) | fail)
    rename_i b4
    refine ok_map (L' := [P, pts b4 (.cells [.int .i64 t, .int .u8 k, .int .i64 i, .int .u64 rr, .string s].toArray 113), pts b (.cells [vs, .map (some m), .int .u64 r.turns].toArray 107), mapK KPlace m es] ++ R) entD ?_
    (apply ok_draw [6]; (focus (kernel_rfl)); (focus ((conv => lhs; whnf); first | done | rfl)); (focus (decide +kernel)); (focus (exact (fun _ h => h))))
    repeat' (first | (refine go_Y ?_; intros) | (refine gs_Y ?_ ?_ <;> (intro hgd; try (simp only [Bool.not_true, Bool.not_false] at hgd))) | (refine gc_Y ?_ ?_ <;> intro _) | fail)
    refine clN_Y (hcl) ?_
    rintro ⟨vn, hvn⟩ _
    repeat' (first | (refine go_Y ?_; intros) | (refine gs_Y ?_ ?_ <;> (intro hgd; try (simp only [Bool.not_true, Bool.not_false] at hgd))) | (refine gc_Y ?_ ?_ <;> intro _) | fail)
    refine cont_map (fun _ h => pool_in (A := row 31 4 vn (l.map valV)) (P := P) (Take.out2 takeD h)) ?_
    refine cont_map (fun _ h => rel_in (b := b) (r := { r with rows := aput (t, ⟨k, i, rr, s⟩) l r.rows }) (P := pool (row 31 4 vn (l.map valV)) P) (vs := vs) (ts := ts) (m := m) (es := putK KPlace (t, ⟨k, i, rr, s⟩) vn es) ⟨hvc, hsv.ext (Ext.pool _ _), hss, hput _ (Ext.pool _ _) vn pool_row⟩ (Take.out takeD h)) ?_
    (refine rt_Y (y := pool (row 31 4 vn (l.map valV)) P) (hrs := Tryd.results97) (hv := ?_) (hφ := ?_))
    · rfl
    · exact Ext.pool _ _
theorem remove_spec : ActSpec 98 Rl.rem := by
  intro P b r p l w hw hl
  refine fspec_ex ?_
  rintro ⟨⟨vs, ts, m, es⟩, hy⟩
  have hy' := hy
  obtain ⟨hvc, hsv, hss, hes⟩ := hy
  dsimp only at hvc hsv hss hes
  unfold relL
  dsimp only
  have hget := hes.get (p := p)
  have hdel := hes.del (p := p)
  unfold Rl.rem
  obtain ⟨t, ⟨k, i, rr, s⟩⟩ := p
  dsimp only [placeV, valV]
  rcases hget with ⟨hg, ha⟩ | ⟨v, l', hg, ha, hv⟩
  · rw [ha]
    simp only [Option.isSome_none, Bool.false_eq_true, if_false]
    refine spec_intro [] _ Tryd.func98 rfl Tryd.ntmps98 (by rfl) (fun w0 R => ?_)
    repeat' (first | (refine go_Y ?_; intros) | (refine gs_Y ?_ ?_ <;> (intro hgd; try (simp only [Bool.not_true, Bool.not_false] at hgd))) | (refine gc_Y ?_ ?_ <;> intro _) | fail)
    refine cont_map (fun _ h => rel_in (b := b) (r := r) hy' (Take.out takeD h)) ?_
    (refine rt_Y (y := P) (hrs := Tryd.results98) (hv := ?_) (hφ := ?_))
    · rfl
    · exact Ext.refl P
  · rw [ha]
    simp only [Option.isSome_some, if_true]
    refine spec_intro [] _ Tryd.func98 rfl Tryd.ntmps98 (by rfl) (fun w0 R => ?_)
    repeat' (first | (refine go_Y ?_; intros) | (refine gs_Y ?_ ?_ <;> (intro hgd; try (simp only [Bool.not_true, Bool.not_false] at hgd))) | (refine gc_Y ?_ ?_ <;> intro _) | fail)
    refine cont_map (fun _ h => rel_in (b := b) (r := { r with rows := adel (t, ⟨k, i, rr, s⟩) r.rows }) (P := P) (vs := vs) (ts := ts) (m := m) (es := delK KPlace (t, ⟨k, i, rr, s⟩) es) ⟨hvc, hsv, hss, hdel⟩ (Take.out takeD h)) ?_
    (refine rt_Y (y := P) (hrs := Tryd.results98) (hv := ?_) (hφ := ?_))
    · rfl
    · exact Ext.refl P
def fv (f : FuncId) : Value := .func (.func f) #[] #[]
theorem ops_spec : FSpec Tryd.prog 55 [] [] Nat (fun _ => True) (fun m => .map (some m)) (fun m => [mapK (KInt .u8) m [(1, fv 96), (2, fv 97), (3, fv 98)]]) := by
  refine spec_intro [] _ Tryd.func55 rfl Tryd.ntmps55 (by rfl) (fun w0 R => ?_)
  repeat' (first | (refine go_Y ?_; intros) | (refine gs_Y ?_ ?_ <;> (intro hgd; try (simp only [Bool.not_true, Bool.not_false] at hgd))) | (refine gc_Y ?_ ?_ <;> intro _) | fail)
  rename_i m
  (refine rt_Y (y := m) (hrs := Tryd.results55) (hv := ?_) (hφ := ?_))
  · rfl
  · trivial
end Go.Proofs.YtbagfdolcabniaaDoor
