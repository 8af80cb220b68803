/- Texts merged: RlE RlF RlG RlH. -/
import Derived.Test.YtmnafjonbeihiaaGreatDoorG3
set_option linter.unusedSimpArgs false
set_option linter.unusedVariables false
set_option maxRecDepth 100000
namespace Go.Proofs.YtmnafjonbeihiaaGreatDoor
open Go Go.Fx Go.Proofs Go.Pl
theorem placeS_delN {s : Sc} {k t : Int} {l : List Vl} (h : k = 3) (hl : l.length ≠ 1) : placeS s ⟨k, t, l⟩ = none := by
  unfold placeS
  rw [if_pos h]
  match l, hl with
  | [], _ => rfl
  | [v], h => exact absurd rfl h
  | _ :: _ :: _, _ => rfl
theorem placeS_del {s : Sc} {t : Int} {v : Vl} : placeS s ⟨3, t, [v]⟩ = if keyS s t v then some (t, v) else none := by
  unfold placeS
  rw [if_pos rfl]
theorem placeS_lay {s : Sc} {k t : Int} {l : List Vl} (h : ¬ k = 3) : placeS s ⟨k, t, l⟩ = if rowS s t l then some (t, Pl.keyOf s t l) else none := by
  unfold placeS
  rw [if_neg h]
theorem relNew_spec (vs : Value) (ts : List Tb) (A : HProp) (h : SV A vs ts) (hc : checkS (ts.map Tb.c) = true) :
    FSpec Tryz.prog 23 [.agg #[vs]] [A] (Nat × HProp) (fun y => Ext A y.2) (fun y => .tuple #[.pointer (some ⟨y.1, 0, none⟩), .int .i64 0]) (fun y => [relP y.2 y.1 ⟨ts.map Tb.c, [], 0⟩, y.2]) := by
  have hs := sCheck_spec vs ts A h
  obtain ⟨ds, _, haok, hl, hl12⟩ := checkS_ok hc
  rw [List.length_map] at hl hl12
  rw [hc, if_pos rfl] at hs
  have hcl := relClone_spec vs ts A h hl (by omega) (fun t ht => by have := (haok.tab t ht).len; omega)
  refine spec_intro [] _ Tryz.func23 rfl Tryz.ntmps23 (by rfl) (fun w0 R => ?_)
  repeat' (first | (refine gY ?_; intros) | (refine hY ?_ ?_ <;> (intro hgd; try simp only [bn] at hgd)) | (refine jY ?_ ?_ <;> intro _) | fail)
  refine cl_Y (hs) ?_
  intro _ _
  repeat' (first | (refine gY ?_; intros) | (refine hY ?_ ?_ <;> (intro hgd; try simp only [bn] at hgd)) | (refine jY ?_ ?_ <;> intro _) | fail)
  refine cl_Y (hcl) ?_
  rintro ⟨⟨v, hv⟩, tk, P⟩ ⟨hsv, hmc, hext⟩
  dsimp only at hsv hmc hext ⊢
  have hsv' := hsv
  obtain ⟨_, _, _, ⟨p, len, cap, rfl, hcap⟩⟩ := hsv
  repeat' (first | (refine gY ?_; intros) | (refine hY ?_ ?_ <;> (intro hgd; try simp only [bn] at hgd)) | (refine jY ?_ ?_ <;> intro _) | fail)
  rename_i m b
  refine cont_map (fun _ h => rel_in (b := b) (r := ⟨ts.map Tb.c, [], 0⟩) (P := P) (vs := .slice p len cap) (ts := tk) (m := m) (es := []) ⟨rfl, hsv', hmc, .nil⟩ (Take.out takeD h)) ?_
  (refine rt_Y (y := (b, P)) (hrs := Tryz.results23) (hv := ?_) (hφ := ?_))
  · rfl
  · exact hext
set_option maxHeartbeats 2000000 in
theorem place_spec (b : Nat) (vs : Value) (m : Nat) (turns : Int) (ts : List Tb) (P : HProp) (o : Opr) (w : Value) (hvc : vs.oneCell' = true) (hsv : SV P vs ts) (hU : UT P) (hw : Vw P 4 w (o.row.map valV)) (hwf : ∀ v ∈ o.row, v.wf) (hlen : o.row.length ≤ 1000000) :
    FSpec Tryz.prog 66 [.pointer (some ⟨b, 0, none⟩), .agg #[.int .u8 o.kind, .int .i64 o.table, w]] [P, pts b (.cells [vs, .map (some m), .int .u64 turns].toArray 129)] Pc
      (fun q => ∀ p, placeS (ts.map Tb.c) o = some p → q = p) (fun q => .tuple #[.agg (placeV q).toArray, .int .i64 (bif (placeS (ts.map Tb.c) o).isSome then 0 else 2)]) (fun _ => [P, pts b (.cells [vs, .map (some m), .int .u64 turns].toArray 129)]) := by
  obtain ⟨kind, table, l⟩ := o
  dsimp only at hw hwf hlen ⊢
  have hll : (l.map valV).length = l.length := by simp
  have hrow := sRow_spec table l vs w ts P hsv hU hw hwf
  cases k3 : decide (kind = 3) with
  | true =>
    have e3 : kind = 3 := of_decide_eq_true k3
    subst e3
    cases n1 : (!decide (((l.map valV).length : Int) = 1)) with
    | true =>
      have hne : l.length ≠ 1 := by intro e; simp [e] at n1
      have hN := placeS_delN (s := ts.map Tb.c) (t := table) (k := 3) rfl hne
      rw [hN]
      refine spec_intro [] _ Tryz.func66 rfl Tryz.ntmps66 (by rfl) (fun w0 R => ?_)
      refine ok_learn (VwIn.slice (VwIn.here hw)) ?_
      rintro ⟨pw, cw, rfl⟩
      repeat' (first | (refine gY ?_; intros) | (refine hY ?_ ?_ <;> (intro hgd; try simp only [bn] at hgd)) | (refine jY ?_ ?_ <;> intro _) | fail)
      (refine rt_Y (y := (0, nul)) (hrs := Tryz.results66) (hv := ?_) (hφ := ?_))
      · rfl
      · intro p hp; cases hp
    | false =>
      have h1 : l.length = 1 := by simp at n1; omega
      match l, h1 with
      | [v], _ =>
        rw [placeS_del]
        have hv := hwf v (List.mem_singleton.2 rfl)
        have hkey := sKey_spec table v vs ts P hsv hU hv
        have hx : ([v].map valV)[0]? = some (valV v) := rfl
        obtain ⟨vk, vi, vr, vt⟩ := v
        dsimp only [valV] at hx hkey
        refine spec_intro [] _ Tryz.func66 rfl Tryz.ntmps66 (by rfl) (fun w0 R => ?_)
        refine ok_learn (VwIn.slice (VwIn.here hw)) ?_
        rintro ⟨pw, cw, rfl⟩
        refine ok_learn (VwIn.base (VwIn.here hw) (by simp)) ?_
        rintro ⟨bw, ow, rfl⟩
        repeat' (first | (refine gY ?_; intros) | (refine hY ?_ ?_ <;> (intro hgd; try simp only [bn] at hgd)) | (refine jY ?_ ?_ <;> intro _) | fail)
        rename_i b3 b4
        refine ok_map (L' := [P, pts b4 (.cells (placeV (0, nul)).toArray 135), pts b3 (.cells [.int .u8 3, .int .i64 table, .slice (some ⟨bw, ow, none⟩) ([(⟨vk, vi, vr, vt⟩ : Vl)].map valV).length cw].toArray 24), pts b (.cells [vs, .map (some m), .int .u64 turns].toArray 129)] ++ R) entD ?_
        have hlt : 0 < ([(⟨vk, vi, vr, vt⟩ : Vl)].map valV).length := by simp
        dsimp only [placeV, valV, nul]
        (apply ok_draw [17]; (focus (kernel_rfl)); (focus ((conv => lhs; whnf); first | done | rfl)); (focus (decide +kernel)); (focus (exact (fun _ h => h))))
        repeat' (first | (refine gY ?_; intros) | (refine hY ?_ ?_ <;> (intro hgd; try simp only [bn] at hgd)) | (refine jY ?_ ?_ <;> intro _) | fail)
        refine clN_Y (hkey) ?_
        intro _ _
        repeat' (first | (refine gY ?_; intros) | (refine hY ?_ ?_ <;> (intro hgd; try simp only [bn] at hgd)) | (refine jY ?_ ?_ <;> intro _) | fail)
        (refine rt_Y (y := (table, ⟨vk, vi, vr, vt⟩)) (hrs := Tryz.results66) (hv := ?_) (hφ := ?_))
        · cases keyS (ts.map Tb.c) table ⟨vk, vi, vr, vt⟩ <;> rfl
        · intro p hp
          split at hp
          · cases hp; rfl
          · cases hp
  | false =>
    have e3 : ¬ kind = 3 := of_decide_eq_false k3
    rw [placeS_lay e3]
    cases hr : rowS (ts.map Tb.c) table l with
    | false =>
      rw [hr, cond_false] at hrow
      rw [if_neg (by decide)]
      refine spec_intro [] _ Tryz.func66 rfl Tryz.ntmps66 (by rfl) (fun w0 R => ?_)
      repeat' (first | (refine gY ?_; intros) | (refine hY ?_ ?_ <;> (intro hgd; try simp only [bn] at hgd)) | (refine jY ?_ ?_ <;> intro _) | fail)
      refine cl_Y (hrow) ?_
      intro _ _
      repeat' (first | (refine gY ?_; intros) | (refine hY ?_ ?_ <;> (intro hgd; try simp only [bn] at hgd)) | (refine jY ?_ ?_ <;> intro _) | fail)
      (refine rt_Y (y := (0, nul)) (hrs := Tryz.results66) (hv := ?_) (hφ := ?_))
      · rfl
      · intro p hp; cases hp
    | true =>
      rw [hr, cond_true] at hrow
      rw [if_pos rfl]
      obtain ⟨hk1, hk2, hk3⟩ := rowS_key hr
      have hh : hasS (ts.map Tb.c) table = true := by simp only [rowS, Bool.and_eq_true] at hr; exact hr.1
      obtain ⟨tm, t, rfl, ht, hxt, htm, hta, hok, hmem⟩ := hasS_tb hh
      rw [hta] at hk2 hk3
      have k0 := hok.key0
      have kL := hok.keyL
      generalize hko : Pl.keyOf (ts.map Tb.c) (tm : Int) l = v at hk1 hk2
      obtain ⟨tn, cols, ⟨cv, hcv⟩, key, ref, par⟩ := t
      dsimp only [tbV, Tb.c] at hxt hk2 hk3 k0 kL
      obtain ⟨km, rfl⟩ : ∃ km : Nat, key = km := ⟨key.toNat, by omega⟩
      rw [Int.toNat_natCast] at hk2
      have hx : (l.map valV)[km]? = some (valV v) := by rw [List.getElem?_map, hk2]; rfl
      have hn1 : km < (l.map valV).length := by omega
      obtain ⟨vk, vi, vr, vt⟩ := v
      dsimp only [valV] at hx
      refine spec_intro [] _ Tryz.func66 rfl Tryz.ntmps66 (by rfl) (fun w0 R => ?_)
      refine ok_learn (VwIn.slice (VwIn.here hw)) ?_
      rintro ⟨pw, cw, rfl⟩
      refine ok_learn (VwIn.base (VwIn.here hw) (by intro e; rw [e] at hn1; simp at hn1)) ?_
      rintro ⟨bw, ow, rfl⟩
      have hv := hsv.vw
      refine ok_learn (VwIn.slice (VwIn.here hv)) ?_
      rintro ⟨pv, cv', rfl⟩
      refine ok_learn (VwIn.base (VwIn.here hv) (by intro e; rw [e] at htm; simp at htm)) ?_
      rintro ⟨bv, ov, rfl⟩
      repeat' (first | (refine gY ?_; intros) | (refine hY ?_ ?_ <;> (intro hgd; try simp only [bn] at hgd)) | (refine jY ?_ ?_ <;> intro _) | fail)
      refine cl_Y (hrow) ?_
      intro _ _
      repeat' (first | (refine gY ?_; intros) | (refine hY ?_ ?_ <;> (intro hgd; try simp only [bn] at hgd)) | (refine jY ?_ ?_ <;> intro _) | fail)
      (refine rt_Y (y := ((tm : Int), ⟨vk, vi, vr, vt⟩)) (hrs := Tryz.results66) (hv := ?_) (hφ := ?_))
      · rfl
      · intro p hp; cases hp; rfl
end Go.Proofs.YtmnafjonbeihiaaGreatDoor
namespace Go.Proofs.YtmnafjonbeihiaaGreatDoor
open Go Go.Fx Go.Proofs Go.Pl
section
variable {X : Cx} {ops : Array Oper} {l st : List Nat} {T : List HProp} {N : Act → World → Prop} {i : Nat} {os : List Oper} {Ls : List HProp} {ds : List Deferred} {ρ : Regs} {L : List HProp} {ty : TypeId} {d : Nat}
theorem s_callT {f : FuncId} [K : FnI X.P f] {args : Array Operand} {at_ : Array TypeId} {vs : List Value} {pre R : List HProp} {Y : Type} {φ : Y → Prop} {ret : Y → Value} {post : Y → List HProp}
    (ha : EvA ρ args.toList vs) (hs : FSpecM X.w0.m X.P f vs pre Y φ ret post) (ht : Take L pre R) (hst : st.contains i = false) (hT : ∀ y, φ y → ∀ h, SatL (post y ++ R) h → SatL T h) (hd : Nat.blt d X.nt = true) (hb : l.contains i = false)
    (h : ∀ y, φ y → OpsL X ops ⟨l, st, T⟩ N (i + 1) os (post y ++ R) ds (upd ρ d (ret y)) (post y ++ R)) : Op1 X ops ⟨l, st, T⟩ N i (some d) (.call { callee := .value (.func f), args := args, argTypes := at_ }) ty os Ls ds ρ L :=
  op_effT (e_call ha hs ht) hst hT (fun _ e => by cases e; exact hd) hb h
theorem a_lookupL {mt kt et : Nat} {z : Value} {K : KT} [I : Mp X.P mt kt et] [J : KeyT X.P kt K] [Z : Zr X.P et z] {x y : Operand} {m : Nat} {a : K.α} {q : List (K.α × Value)} {ok : Bool} {o : Option Value} {v : Value} (hst : st.contains i = false)
    (hx : ev ρ x = .map (some m)) (hy : ev ρ y = K.enc a) (hm : MpIn K m q Ls) (ho : getK K a q = o) (hv : lookOf ok z o = v) (hd : Nat.blt d X.nt = true) (h : OpsL X ops ⟨l, st, T⟩ N (i + 1) os Ls ds (upd ρ d v) L) :
    Op1 X ops ⟨l, st, T⟩ N i (some d) (.lookup mt x y ok) ty os Ls ds ρ L := by
  subst hv ho
  refine op_quietL hst (fun _ e => by cases e) (fun _ _ _ => by simp [qk]) (fun x hx => by cases hx; exact hd) ?_ h
  intro pos after gd w hw
  have hs := hw.resolve_left (by simp [qk])
  obtain ⟨es, clock, hb', hk⟩ := hm.satL hs.heap
  have hb : w.heap[m]? = some (.map es clock) := hb'
  simp only [execOp, hx, hy, Instr.lookup, Sem.run_bind, run_underlying_of I.und, Result.andThen_ok, MapKept.run_getObj_map (P := X.P) hb, Sem.run_pure, J.check, J.find a es.toList q w hk.kv]
  rw [← getK_ix a q 0]
  cases ixK K a q 0 with
  | some x => cases ok <;> rfl
  | none => simp only [Sem.run_bind, Z.run_zero, Result.andThen_ok, Sem.run_pure]; cases ok <;> rfl
end
abbrev V1s := { v : Value // v.oneCell' = true }
def Rl.doG (op : Rl → Pc → List Vl → Rl × Int) (r : Rl) (o : Opr) : Rl × List Vl × List Vl × Int :=
  match placeS r.s o with
  | none => (r, [], [], 2)
  | some p => if (op r p o.row).2 = 0 then ({ (op r p o.row).1 with turns := IntKind.u64.wrap ((op r p o.row).1.turns + 1) }, (aget p r.rows).getD [], (aget p (op r p o.row).1.rows).getD [], 0) else (r, [], [], (op r p o.row).2)
def opsE : List (Int × Value) := [(1, fv 112), (2, fv 113), (3, fv 114)]
theorem vw_nil4 {P : HProp} : Vw P 4 (.slice none 0 0) (([] : List Vl).map valV) := fun h _ => ⟨fun _ hx => by simp at hx, none, 0, rfl, .inl rfl, fun _ => rfl, fun b o hp => by cases hp⟩
set_option maxHeartbeats 4000000 in
theorem DoG_spec (f : FuncId) [FnI Tryz.prog f] (op : Rl → Pc → List Vl → Rl × Int) (hact : ActSpec f op) (b : Nat) (r : Rl) (o : Opr) (w : Value) (P : HProp) (hk : getK (KInt .u8) o.kind opsE = some (fv f)) (hU : UT P)
    (hw : Vw P 4 w (o.row.map valV)) (hwc : w.oneCell' = true) (hwf : ∀ v ∈ o.row, v.wf) (hlen : o.row.length ≤ 1000000) (hsame : ∀ p, (op r p o.row).2 ≠ 0 → (op r p o.row).1 = r)
    (hll : ∀ p l, aget p (op r p o.row).1.rows = some l → l.length ≤ 1000000) :
    FSpec Tryz.prog 25 [.pointer (some ⟨b, 0, none⟩), .agg #[.int .u8 o.kind, .int .i64 o.table, w]] [relP P b r, P] (V1s × V1s × HProp)
      (fun y => Ext P y.2.2 ∧ Vw y.2.2 4 y.1.1 ((Rl.doG op r o).2.1.map valV)) (fun y => .tuple #[y.1.1, y.2.1.1, .int .i64 (Rl.doG op r o).2.2.2])
      (fun y => [row 93 4 y.2.1.1 ((Rl.doG op r o).2.2.1.map valV), relP y.2.2 b (Rl.doG op r o).1, y.2.2]) := by
  refine fspec_ex ?_
  rintro ⟨⟨vs, ts, m, es⟩, hy⟩
  have hy' := hy
  obtain ⟨hvc, hsv, hss, hes⟩ := hy
  dsimp only at hvc hsv hss hes
  unfold relL
  dsimp only
  have hpl := place_spec b vs m r.turns ts P o w hvc hsv hU hw hwf hlen
  rw [hss] at hpl
  have hget := fun p => hes.get (p := p)
  have hops := ops_spec
  unfold opsE at hk
  obtain ⟨kind, table, l⟩ := o
  dsimp only at hpl hk hw hwf hlen hsame hll
  generalize hD : Rl.doG op r ⟨kind, table, l⟩ = D
  refine spec_intro [] _ Tryz.func25 rfl Tryz.ntmps25 (by rfl) (fun w0 R => ?_)
  repeat' (first | (refine gY ?_; intros) | (refine hY ?_ ?_ <;> (intro hgd; try simp only [bn] at hgd)) | (refine jY ?_ ?_ <;> intro _) | fail)
  rename_i b3
  refine ok_drawS (cv := []) [] [2] ([pts b3 (.cells [.int .u8 kind, .int .i64 table, w].toArray 24)]) _ (by kernel_rfl) rfl (by decide +kernel) (fun _ h => h) (takeS) ?_
  refine ops_run (s_callT (vs := []) (pre := []) .nil hops Take.nil rfl (fun _ _ _ h => takePre takeD _ h) rfl rfl ?_)
  intro mo _
  repeat' (first | (refine ro_Y ?_; intros) | fail)
  refine ops_run (a_lookupL (K := KInt .u8) rfl rfl rfl (MpIn.here (fun _ h => h)) hk rfl rfl ?_)
  repeat' (first | (refine gY ?_; intros) | (refine hY ?_ ?_ <;> (intro hgd; try simp only [bn] at hgd)) | (refine jY ?_ ?_ <;> intro _) | fail)
  refine cl_Y (hpl) ?_
  rintro ⟨qt, ⟨qk, qi, qr, qs⟩⟩ hq
  dsimp only [placeV, valV]
  cases hp : placeS r.s ⟨kind, table, l⟩ with
  | none =>
    have hDe : D = (r, [], [], 2) := by rw [← hD]; unfold Rl.doG; rw [hp]
    subst hDe
    simp only [Option.isSome_none, cond_false]
    repeat' (first | (refine gY ?_; intros) | (refine hY ?_ ?_ <;> (intro hgd; try simp only [bn] at hgd)) | (refine jY ?_ ?_ <;> intro _) | fail)
    refine cont_map (fun _ h => rel_in (b := b) (r := r) hy' (Take.out takeD h)) ?_
    refine cont_map (fun _ h => nilRow (e := 93) (n := 4) h) ?_
    (refine rt_Y (y := (⟨.slice none 0 0, rfl⟩, ⟨.slice none 0 0, rfl⟩, P)) (hrs := Tryz.results25) (hv := ?_) (hφ := ?_))
    · rfl
    · exact ⟨Ext.refl P, vw_nil4⟩
  | some p =>
    have hqp := hq p hp
    subst hqp
    simp only [Option.isSome_some, cond_true]
    have hacts := hact P b r (qt, ⟨qk, qi, qr, qs⟩) l w hw hlen
    have hget := hget (qt, ⟨qk, qi, qr, qs⟩)
    have hsame := hsame (qt, ⟨qk, qi, qr, qs⟩)
    have hll := hll (qt, ⟨qk, qi, qr, qs⟩)
    have hDe : D = if (op r (qt, ⟨qk, qi, qr, qs⟩) l).2 = 0 then ({ (op r (qt, ⟨qk, qi, qr, qs⟩) l).1 with turns := IntKind.u64.wrap ((op r (qt, ⟨qk, qi, qr, qs⟩) l).1.turns + 1) }, (aget (qt, ⟨qk, qi, qr, qs⟩) r.rows).getD [], (aget (qt, ⟨qk, qi, qr, qs⟩) (op r (qt, ⟨qk, qi, qr, qs⟩) l).1.rows).getD [], 0) else (r, [], [], (op r (qt, ⟨qk, qi, qr, qs⟩) l).2) := by
      rw [← hD]; unfold Rl.doG; rw [hp]
    generalize op r (qt, ⟨qk, qi, qr, qs⟩) l = res at hacts hsame hll hDe
    obtain ⟨r', e⟩ := res
    dsimp only [placeV, valV] at hacts hsame hll hDe
    rcases hget with ⟨hg, ha⟩ | ⟨v, l', hg, ha, hwas⟩
    · have hwas : Vw P 4 (.slice none 0 0) (([] : List Vl).map valV) := vw_nil4
      repeat' (first | (refine gY ?_; intros) | (refine hY ?_ ?_ <;> (intro hgd; try simp only [bn] at hgd)) | (refine jY ?_ ?_ <;> intro _) | fail)
      refine opsL_map (fun _ h => rel_in (b := b) (r := r) hy' (Take.out takeD h)) ?_
      refine clV_Y (vspec_fn hacts) ?_
      intro P' hext
      repeat' (first | (refine ro_Y ?_; intros) | fail)
      refine cont_ex (M := relL P' b r') selD ?_
      rintro ⟨⟨vs', ts', m', es'⟩, hy2⟩
      have hy2' := hy2
      obtain ⟨hvc2, hsv2, hss2, hes2⟩ := hy2
      dsimp only at hvc2 hsv2 hss2 hes2
      unfold relL
      dsimp only
      cases he : decide (e = 0) with
      | false =>
        have he0 := of_decide_eq_false he
        have hne : (!decide (e = 0)) = true := by rw [he]; rfl
        have hrr := hsame he0
        rw [if_neg he0] at hDe
        subst hDe
        subst hrr
        repeat' (first | (refine gY ?_; intros) | (refine hY ?_ ?_ <;> (intro hgd; try simp only [bn] at hgd)) | (refine jY ?_ ?_ <;> intro _) | fail)
        refine cont_map (fun _ h => rel_in (b := b) (r := r') hy2' (Take.out takeD h)) ?_
        refine cont_map (fun _ h => nilRow (e := 93) (n := 4) h) ?_
        (refine rt_Y (y := (⟨.slice none 0 0, rfl⟩, ⟨.slice none 0 0, rfl⟩, P')) (hrs := Tryz.results25) (hv := ?_) (hφ := ?_))
        · rfl
        · exact ⟨hext, vw_nil4⟩
      | true =>
        have he0 := of_decide_eq_true he
        rw [if_pos he0, ha] at hDe
        simp only [Option.getD_some, Option.getD_none] at hDe
        subst he0
        rcases hes2.get (p := (qt, ⟨qk, qi, qr, qs⟩)) with ⟨hg2, ha2⟩ | ⟨v2, l2, hg2, ha2, hv2⟩
        · rw [ha2] at hDe
          simp only [Option.getD_none] at hDe
          subst hDe
          have hcl := cloneV_spec (.slice none 0 0) P' [] vw_nil4 (by simp)
          repeat' (first | (refine gY ?_; intros) | (refine hY ?_ ?_ <;> (intro hgd; try simp only [bn] at hgd)) | (refine jY ?_ ?_ <;> intro _) | fail)
          refine cl_Y (hcl) ?_
          rintro ⟨va, hva⟩ _
          repeat' (first | (refine gY ?_; intros) | (refine hY ?_ ?_ <;> (intro hgd; try simp only [bn] at hgd)) | (refine jY ?_ ?_ <;> intro _) | fail)
          refine cont_map (fun _ h => rel_in (b := b) (r := { r' with turns := IntKind.u64.wrap (r'.turns + 1) }) (P := P') (vs := vs') (ts := ts') (m := m') (es := es') ⟨hvc2, hsv2, hss2, hes2⟩ (Take.out takeD h)) ?_
          (refine rt_Y (y := (⟨.slice none 0 0, rfl⟩, ⟨va, hva⟩, P')) (hrs := Tryz.results25) (hv := ?_) (hφ := ?_))
          · rfl
          · exact ⟨hext, hext.vw hwas⟩
        · have hl2 := hll l2 ha2
          rw [ha2] at hDe
          simp only [Option.getD_some] at hDe
          subst hDe
          have hcl := cloneV_spec v2 P' l2 hv2 hl2
          repeat' (first | (refine gY ?_; intros) | (refine hY ?_ ?_ <;> (intro hgd; try simp only [bn] at hgd)) | (refine jY ?_ ?_ <;> intro _) | fail)
          refine cl_Y (hcl) ?_
          rintro ⟨va, hva⟩ _
          repeat' (first | (refine gY ?_; intros) | (refine hY ?_ ?_ <;> (intro hgd; try simp only [bn] at hgd)) | (refine jY ?_ ?_ <;> intro _) | fail)
          refine cont_map (fun _ h => rel_in (b := b) (r := { r' with turns := IntKind.u64.wrap (r'.turns + 1) }) (P := P') (vs := vs') (ts := ts') (m := m') (es := es') ⟨hvc2, hsv2, hss2, hes2⟩ (Take.out takeD h)) ?_
          (refine rt_Y (y := (⟨.slice none 0 0, rfl⟩, ⟨va, hva⟩, P')) (hrs := Tryz.results25) (hv := ?_) (hφ := ?_))
          · rfl
          · exact ⟨hext, hext.vw hwas⟩
    · refine ops_learn (VwIn.slice (n := 4) (v := v) (xs := l'.map valV) (VwIn.here hwas)) ?_
      rintro ⟨pv, cv, rfl⟩
      repeat' (first | (refine gY ?_; intros) | (refine hY ?_ ?_ <;> (intro hgd; try simp only [bn] at hgd)) | (refine jY ?_ ?_ <;> intro _) | fail)
      refine opsL_map (fun _ h => rel_in (b := b) (r := r) hy' (Take.out takeD h)) ?_
      refine clV_Y (vspec_fn hacts) ?_
      intro P' hext
      repeat' (first | (refine ro_Y ?_; intros) | fail)
      refine cont_ex (M := relL P' b r') selD ?_
      rintro ⟨⟨vs', ts', m', es'⟩, hy2⟩
      have hy2' := hy2
      obtain ⟨hvc2, hsv2, hss2, hes2⟩ := hy2
      dsimp only at hvc2 hsv2 hss2 hes2
      unfold relL
      dsimp only
      cases he : decide (e = 0) with
      | false =>
        have he0 := of_decide_eq_false he
        have hne : (!decide (e = 0)) = true := by rw [he]; rfl
        have hrr := hsame he0
        rw [if_neg he0] at hDe
        subst hDe
        subst hrr
        repeat' (first | (refine gY ?_; intros) | (refine hY ?_ ?_ <;> (intro hgd; try simp only [bn] at hgd)) | (refine jY ?_ ?_ <;> intro _) | fail)
        refine cont_map (fun _ h => rel_in (b := b) (r := r') hy2' (Take.out takeD h)) ?_
        refine cont_map (fun _ h => nilRow (e := 93) (n := 4) h) ?_
        (refine rt_Y (y := (⟨.slice none 0 0, rfl⟩, ⟨.slice none 0 0, rfl⟩, P')) (hrs := Tryz.results25) (hv := ?_) (hφ := ?_))
        · rfl
        · exact ⟨hext, vw_nil4⟩
      | true =>
        have he0 := of_decide_eq_true he
        rw [if_pos he0, ha] at hDe
        simp only [Option.getD_some, Option.getD_none] at hDe
        subst he0
        rcases hes2.get (p := (qt, ⟨qk, qi, qr, qs⟩)) with ⟨hg2, ha2⟩ | ⟨v2, l2, hg2, ha2, hv2⟩
        · rw [ha2] at hDe
          simp only [Option.getD_none] at hDe
          subst hDe
          have hcl := cloneV_spec (.slice none 0 0) P' [] vw_nil4 (by simp)
          repeat' (first | (refine gY ?_; intros) | (refine hY ?_ ?_ <;> (intro hgd; try simp only [bn] at hgd)) | (refine jY ?_ ?_ <;> intro _) | fail)
          refine cl_Y (hcl) ?_
          rintro ⟨va, hva⟩ _
          repeat' (first | (refine gY ?_; intros) | (refine hY ?_ ?_ <;> (intro hgd; try simp only [bn] at hgd)) | (refine jY ?_ ?_ <;> intro _) | fail)
          refine cont_map (fun _ h => rel_in (b := b) (r := { r' with turns := IntKind.u64.wrap (r'.turns + 1) }) (P := P') (vs := vs') (ts := ts') (m := m') (es := es') ⟨hvc2, hsv2, hss2, hes2⟩ (Take.out takeD h)) ?_
          (refine rt_Y (y := (⟨.slice pv (l'.map valV).length cv, rfl⟩, ⟨va, hva⟩, P')) (hrs := Tryz.results25) (hv := ?_) (hφ := ?_))
          · rfl
          · exact ⟨hext, hext.vw hwas⟩
        · have hl2 := hll l2 ha2
          rw [ha2] at hDe
          simp only [Option.getD_some] at hDe
          subst hDe
          have hcl := cloneV_spec v2 P' l2 hv2 hl2
          repeat' (first | (refine gY ?_; intros) | (refine hY ?_ ?_ <;> (intro hgd; try simp only [bn] at hgd)) | (refine jY ?_ ?_ <;> intro _) | fail)
          refine cl_Y (hcl) ?_
          rintro ⟨va, hva⟩ _
          repeat' (first | (refine gY ?_; intros) | (refine hY ?_ ?_ <;> (intro hgd; try simp only [bn] at hgd)) | (refine jY ?_ ?_ <;> intro _) | fail)
          refine cont_map (fun _ h => rel_in (b := b) (r := { r' with turns := IntKind.u64.wrap (r'.turns + 1) }) (P := P') (vs := vs') (ts := ts') (m := m') (es := es') ⟨hvc2, hsv2, hss2, hes2⟩ (Take.out takeD h)) ?_
          (refine rt_Y (y := (⟨.slice pv (l'.map valV).length cv, rfl⟩, ⟨va, hva⟩, P')) (hrs := Tryz.results25) (hv := ?_) (hφ := ?_))
          · rfl
          · exact ⟨hext, hext.vw hwas⟩
end Go.Proofs.YtmnafjonbeihiaaGreatDoor
