/- Package rel: Do. -/
import Derived.Test.YtbagfdolcabniaaDoorRlE
-- @DEFS Y
set_option linter.unusedSimpArgs false
set_option linter.unusedVariables false
set_option maxRecDepth 100000
namespace Go.Proofs.YtbagfdolcabniaaDoor
open Go Go.Fx Go.Proofs Go.Pl

section
variable {X : Cx} {ops : Array Oper} {l st : List Nat} {T : List HProp} {N : Act → World → Prop} {i : Nat} {os : List Oper} {Ls : List HProp} {ds : List Deferred} {ρ : Regs} {L : List HProp} {ty : TypeId} {d : Nat}
/-- A call amid a region in which some loads are of what stays. -/
theorem s_callT {f : FuncId} [K : FnI X.P f] {args : Array Operand} {at_ : Array TypeId} {vs : List Value} {pre R : List HProp} {Y : Type} {φ : Y → Prop} {ret : Y → Value} {post : Y → List HProp}
    (ha : EvA ρ args.toList vs) (hs : FSpec X.P f vs pre Y φ ret post) (ht : Take L pre R) (hst : st.contains i = false) (hT : ∀ y, φ y → ∀ h, SatL (post y ++ R) h → SatL T h) (hd : Nat.blt d X.nt = true) (hb : l.contains i = false)
    (h : ∀ y, φ y → OpsL X ops ⟨l, st, T⟩ N (i + 1) os (post y ++ R) ds (upd ρ d (ret y)) (post y ++ R)) : Op1 X ops ⟨l, st, T⟩ N i (some d) (.call { callee := .value (.func f), args := args, argTypes := at_ }) ty os Ls ds ρ L :=
  op_effT (e_call ha hs ht) hst hT (fun _ e => by cases e; exact hd) hb h
theorem a_lookupL {mt kt et : Nat} {z : Value} {K : KT} [I : Mp X.P mt kt et] [J : KeyT X.P kt K] [Z : Zr X.P et z] {x y : Operand} {m : Nat} {a : K.α} {q : List (K.α × Value)} {ok : Bool} {o : Option Value} {v : Value} (hst : st.contains i = false)
    (hx : ev ρ x = .map (some m)) (hy : ev ρ y = K.enc a) (hm : MpIn K m q Ls) (ho : getK K a q = o) (hv : lookOf ok z o = v) (hd : Nat.blt d X.nt = true) (h : OpsL X ops ⟨l, st, T⟩ N (i + 1) os Ls ds (upd ρ d v) L) :
    Op1 X ops ⟨l, st, T⟩ N i (some d) (.lookup mt x y ok) ty os Ls ds ρ L := by
  subst hv ho
  refine op_quietL hst (fun _ e => by cases e) (fun _ _ _ => by simp [qk]) (fun x hx => by cases hx; exact hd) ?_ h
  intro pos after gd w hw
  have hs := hw.resolve_left (by simp [qk])
  obtain ⟨es, clock, hb', hk⟩ := hm.satL hs.heap
  have hb : w.heap[m]? = some (.map es clock) := hb'
  simp only [execOp, hx, hy, Instr.lookup, Sem.run_bind, run_underlying_of I.und, Result.andThen_ok, MapKept.run_getObj_map (P := X.P) hb, Sem.run_pure, J.check, J.find a es.toList q w hk.kv]
  rw [← getK_ix a q 0]
  cases ixK K a q 0 with
  | some x => cases ok <;> rfl
  | none => simp only [Sem.run_bind, Z.run_zero, Result.andThen_ok, Sem.run_pure]; cases ok <;> rfl
end

abbrev V1s := { v : Value // v.oneCell' = true }
/-- An op, by what its kind does. -/
def Rl.doG (op : Rl → Pc → List Vl → Rl × Int) (r : Rl) (o : Opr) : Rl × List Vl × List Vl × Int :=
  match placeS r.s o with
  | none => (r, [], [], 2)
  | some p => if (op r p o.row).2 = 0 then ({ (op r p o.row).1 with turns := IntKind.u64.wrap ((op r p o.row).1.turns + 1) }, (aget p r.rows).getD [], (aget p (op r p o.row).1.rows).getD [], 0) else (r, [], [], (op r p o.row).2)
def opsE : List (Int × Value) := [(1, fv 96), (2, fv 97), (3, fv 98)]

theorem vw_nil4 {P : HProp} : Vw P 4 (.slice none 0 0) (([] : List Vl).map valV) := fun h _ => ⟨fun _ hx => by simp at hx, none, 0, rfl, .inl rfl, fun _ => rfl, fun b o hp => by cases hp⟩
set_option maxHeartbeats 4000000 in
theorem DoG_spec (f : FuncId) [FnI Tryd.prog f] (op : Rl → Pc → List Vl → Rl × Int) (hact : ActSpec f op) (b : Nat) (r : Rl) (o : Opr) (w : Value) (P : HProp) (hk : getK (KInt .u8) o.kind opsE = some (fv f)) (hU : UT P)
    (hw : Vw P 4 w (o.row.map valV)) (hwc : w.oneCell' = true) (hwf : ∀ v ∈ o.row, v.wf) (hlen : o.row.length ≤ 1000000) (hsame : ∀ p, (op r p o.row).2 ≠ 0 → (op r p o.row).1 = r)
    (hll : ∀ p l, aget p (op r p o.row).1.rows = some l → l.length ≤ 1000000) :
    FSpec Tryd.prog 13 [.pointer (some ⟨b, 0, none⟩), .agg #[.int .u8 o.kind, .int .i64 o.table, w]] [relP P b r, P] (V1s × V1s × HProp)
      (fun y => Ext P y.2.2 ∧ Vw y.2.2 4 y.1.1 ((Rl.doG op r o).2.1.map valV)) (fun y => .tuple #[y.1.1, y.2.1.1, .int .i64 (Rl.doG op r o).2.2.2])
      (fun y => [row 31 4 y.2.1.1 ((Rl.doG op r o).2.2.1.map valV), relP y.2.2 b (Rl.doG op r o).1, y.2.2]) := by
  refine fspec_ex ?_
  rintro ⟨⟨vs, ts, m, es⟩, hy⟩
  have hy' := hy
  obtain ⟨hvc, hsv, hss, hes⟩ := hy
  dsimp only at hvc hsv hss hes
  unfold relL
  dsimp only
  have hpl := place_spec b vs m r.turns ts P o w hvc hsv hU hw hwf hlen
  rw [hss] at hpl
  have hget := fun p => hes.get (p := p)
  have hops := ops_spec
  unfold opsE at hk
  obtain ⟨kind, table, l⟩ := o
  dsimp only at hpl hk hw hwf hlen hsame hll
  generalize hD : Rl.doG op r ⟨kind, table, l⟩ = D
  refine spec_intro [] _ Tryd.func13 rfl Tryd.ntmps13 (by rfl) (fun w0 R => ?_)
  repeat' (first | (refine go_Y ?_; intros) | (refine gs_Y ?_ ?_ <;> (intro hgd; try (simp only [Bool.not_true, Bool.not_false] at hgd))) | (refine gc_Y ?_ ?_ <;> intro _) | fail)
  rename_i b3
  refine ok_drawS (cv := []) [] [2] ([pts b3 (.cells [.int .u8 kind, .int .i64 table, w].toArray 28)]) _ (by kernel_rfl) rfl (by decide +kernel) (fun _ h => h) (takeS) ?_
  refine ops_run (s_callT (vs := []) (pre := []) .nil hops Take.nil rfl (fun _ _ _ h => takePre takeD _ h) rfl rfl ?_)
  intro mo _
  repeat' (first | (refine ro_Y ?_; intros) | fail)
  refine ops_run (a_lookupL (K := KInt .u8) rfl rfl rfl (MpIn.here (fun _ h => h)) hk rfl rfl ?_)
  repeat' (first | (refine go_Y ?_; intros) | (refine gs_Y ?_ ?_ <;> (intro hgd; try (simp only [Bool.not_true, Bool.not_false] at hgd))) | (refine gc_Y ?_ ?_ <;> intro _) | fail)
  refine cl_Y (hpl) ?_
  rintro ⟨qt, ⟨qk, qi, qr, qs⟩⟩ hq
  dsimp only [placeV, valV]
  cases hp : placeS r.s ⟨kind, table, l⟩ with
  | none =>
    have hDe : D = (r, [], [], 2) := by rw [← hD]; unfold Rl.doG; rw [hp]
    subst hDe
    simp only [Option.isSome_none, cond_false]
    repeat' (first | (refine go_Y ?_; intros) | (refine gs_Y ?_ ?_ <;> (intro hgd; try (simp only [Bool.not_true, Bool.not_false] at hgd))) | (refine gc_Y ?_ ?_ <;> intro _) | fail)
    refine cont_map (fun _ h => rel_in (b := b) (r := r) hy' (Take.out takeD h)) ?_
    refine cont_map (fun _ h => nilRow (e := 31) (n := 4) h) ?_
    (refine rt_Y (y := (⟨.slice none 0 0, rfl⟩, ⟨.slice none 0 0, rfl⟩, P)) (hrs := Tryd.results13) (hv := ?_) (hφ := ?_))
    · rfl
    · exact ⟨Ext.refl P, vw_nil4⟩
  | some p =>
    have hqp := hq p hp
    subst hqp
    simp only [Option.isSome_some, cond_true]
    have hacts := hact P b r (qt, ⟨qk, qi, qr, qs⟩) l w hw hlen
    have hget := hget (qt, ⟨qk, qi, qr, qs⟩)
    have hsame := hsame (qt, ⟨qk, qi, qr, qs⟩)
    have hll := hll (qt, ⟨qk, qi, qr, qs⟩)
    have hDe : D = if (op r (qt, ⟨qk, qi, qr, qs⟩) l).2 = 0 then ({ (op r (qt, ⟨qk, qi, qr, qs⟩) l).1 with turns := IntKind.u64.wrap ((op r (qt, ⟨qk, qi, qr, qs⟩) l).1.turns + 1) }, (aget (qt, ⟨qk, qi, qr, qs⟩) r.rows).getD [], (aget (qt, ⟨qk, qi, qr, qs⟩) (op r (qt, ⟨qk, qi, qr, qs⟩) l).1.rows).getD [], 0) else (r, [], [], (op r (qt, ⟨qk, qi, qr, qs⟩) l).2) := by
      rw [← hD]; unfold Rl.doG; rw [hp]
    generalize op r (qt, ⟨qk, qi, qr, qs⟩) l = res at hacts hsame hll hDe
    obtain ⟨r', e⟩ := res
    dsimp only [placeV, valV] at hacts hsame hll hDe
    rcases hget with ⟨hg, ha⟩ | ⟨v, l', hg, ha, hwas⟩
    · have hwas : Vw P 4 (.slice none 0 0) (([] : List Vl).map valV) := vw_nil4
      repeat' (first | (refine go_Y ?_; intros) | (refine gs_Y ?_ ?_ <;> (intro hgd; try (simp only [Bool.not_true, Bool.not_false] at hgd))) | (refine gc_Y ?_ ?_ <;> intro _) | fail)
      refine opsL_map (fun _ h => rel_in (b := b) (r := r) hy' (Take.out takeD h)) ?_
      refine clV_Y (vspec_fn hacts) ?_
      intro P' hext
      repeat' (first | (refine ro_Y ?_; intros) | fail)
      refine cont_ex (M := relL P' b r') selD ?_
      rintro ⟨⟨vs', ts', m', es'⟩, hy2⟩
      have hy2' := hy2
      obtain ⟨hvc2, hsv2, hss2, hes2⟩ := hy2
      dsimp only at hvc2 hsv2 hss2 hes2
      unfold relL
      dsimp only
      cases he : decide (e = 0) with
      | false =>
        have he0 := of_decide_eq_false he
        have hne : (!decide (e = 0)) = true := by rw [he]; rfl
        have hrr := hsame he0
        rw [if_neg he0] at hDe
        subst hDe
        subst hrr
        repeat' (first | (refine go_Y ?_; intros) | (refine gs_Y ?_ ?_ <;> (intro hgd; try (simp only [Bool.not_true, Bool.not_false] at hgd))) | (refine gc_Y ?_ ?_ <;> intro _) | fail)
        refine cont_map (fun _ h => rel_in (b := b) (r := r') hy2' (Take.out takeD h)) ?_
        refine cont_map (fun _ h => nilRow (e := 31) (n := 4) h) ?_
        (refine rt_Y (y := (⟨.slice none 0 0, rfl⟩, ⟨.slice none 0 0, rfl⟩, P')) (hrs := Tryd.results13) (hv := ?_) (hφ := ?_))
        · rfl
        · exact ⟨hext, vw_nil4⟩
      | true =>
        have he0 := of_decide_eq_true he
        rw [if_pos he0, ha] at hDe
        simp only [Option.getD_some, Option.getD_none] at hDe
        subst he0
        rcases hes2.get (p := (qt, ⟨qk, qi, qr, qs⟩)) with ⟨hg2, ha2⟩ | ⟨v2, l2, hg2, ha2, hv2⟩
        · rw [ha2] at hDe
          simp only [Option.getD_none] at hDe
          subst hDe
          have hcl := cloneV_spec (.slice none 0 0) P' [] vw_nil4 (by simp)
          repeat' (first | (refine go_Y ?_; intros) | (refine gs_Y ?_ ?_ <;> (intro hgd; try (simp only [Bool.not_true, Bool.not_false] at hgd))) | (refine gc_Y ?_ ?_ <;> intro _) | fail)
          refine cl_Y (hcl) ?_
          rintro ⟨va, hva⟩ _
          repeat' (first | (refine go_Y ?_; intros) | (refine gs_Y ?_ ?_ <;> (intro hgd; try (simp only [Bool.not_true, Bool.not_false] at hgd))) | (refine gc_Y ?_ ?_ <;> intro _) | fail)
          refine cont_map (fun _ h => rel_in (b := b) (r := { r' with turns := IntKind.u64.wrap (r'.turns + 1) }) (P := P') (vs := vs') (ts := ts') (m := m') (es := es') ⟨hvc2, hsv2, hss2, hes2⟩ (Take.out takeD h)) ?_
          (refine rt_Y (y := (⟨.slice none 0 0, rfl⟩, ⟨va, hva⟩, P')) (hrs := Tryd.results13) (hv := ?_) (hφ := ?_))
          · rfl
          · exact ⟨hext, hext.vw hwas⟩
        · have hl2 := hll l2 ha2
          rw [ha2] at hDe
          simp only [Option.getD_some] at hDe
          subst hDe
          have hcl := cloneV_spec v2 P' l2 hv2 hl2
          repeat' (first | (refine go_Y ?_; intros) | (refine gs_Y ?_ ?_ <;> (intro hgd; try (simp only [Bool.not_true, Bool.not_false] at hgd))) | (refine gc_Y ?_ ?_ <;> intro _) | fail)
          refine cl_Y (hcl) ?_
          rintro ⟨va, hva⟩ _
          repeat' (first | (refine go_Y ?_; intros) | (refine gs_Y ?_ ?_ <;> (intro hgd; try (simp only [Bool.not_true, Bool.not_false] at hgd))) | (refine gc_Y ?_ ?_ <;> intro _) | fail)
          refine cont_map (fun _ h => rel_in (b := b) (r := { r' with turns := IntKind.u64.wrap (r'.turns + 1) }) (P := P') (vs := vs') (ts := ts') (m := m') (es := es') ⟨hvc2, hsv2, hss2, hes2⟩ (Take.out takeD h)) ?_
          (refine rt_Y (y := (⟨.slice none 0 0, rfl⟩, ⟨va, hva⟩, P')) (hrs := Tryd.results13) (hv := ?_) (hφ := ?_))
          · rfl
          · exact ⟨hext, hext.vw hwas⟩
    · refine ops_learn (VwIn.slice (n := 4) (v := v) (xs := l'.map valV) (VwIn.here hwas)) ?_
      rintro ⟨pv, cv, rfl⟩
      repeat' (first | (refine go_Y ?_; intros) | (refine gs_Y ?_ ?_ <;> (intro hgd; try (simp only [Bool.not_true, Bool.not_false] at hgd))) | (refine gc_Y ?_ ?_ <;> intro _) | fail)
      refine opsL_map (fun _ h => rel_in (b := b) (r := r) hy' (Take.out takeD h)) ?_
      refine clV_Y (vspec_fn hacts) ?_
      intro P' hext
      repeat' (first | (refine ro_Y ?_; intros) | fail)
      refine cont_ex (M := relL P' b r') selD ?_
      rintro ⟨⟨vs', ts', m', es'⟩, hy2⟩
      have hy2' := hy2
      obtain ⟨hvc2, hsv2, hss2, hes2⟩ := hy2
      dsimp only at hvc2 hsv2 hss2 hes2
      unfold relL
      dsimp only
      cases he : decide (e = 0) with
      | false =>
        have he0 := of_decide_eq_false he
        have hne : (!decide (e = 0)) = true := by rw [he]; rfl
        have hrr := hsame he0
        rw [if_neg he0] at hDe
        subst hDe
        subst hrr
        repeat' (first | (refine go_Y ?_; intros) | (refine gs_Y ?_ ?_ <;> (intro hgd; try (simp only [Bool.not_true, Bool.not_false] at hgd))) | (refine gc_Y ?_ ?_ <;> intro _) | fail)
        refine cont_map (fun _ h => rel_in (b := b) (r := r') hy2' (Take.out takeD h)) ?_
        refine cont_map (fun _ h => nilRow (e := 31) (n := 4) h) ?_
        (refine rt_Y (y := (⟨.slice none 0 0, rfl⟩, ⟨.slice none 0 0, rfl⟩, P')) (hrs := Tryd.results13) (hv := ?_) (hφ := ?_))
        · rfl
        · exact ⟨hext, vw_nil4⟩
      | true =>
        have he0 := of_decide_eq_true he
        rw [if_pos he0, ha] at hDe
        simp only [Option.getD_some, Option.getD_none] at hDe
        subst he0
        rcases hes2.get (p := (qt, ⟨qk, qi, qr, qs⟩)) with ⟨hg2, ha2⟩ | ⟨v2, l2, hg2, ha2, hv2⟩
        · rw [ha2] at hDe
          simp only [Option.getD_none] at hDe
          subst hDe
          have hcl := cloneV_spec (.slice none 0 0) P' [] vw_nil4 (by simp)
          repeat' (first | (refine go_Y ?_; intros) | (refine gs_Y ?_ ?_ <;> (intro hgd; try (simp only [Bool.not_true, Bool.not_false] at hgd))) | (refine gc_Y ?_ ?_ <;> intro _) | fail)
          refine cl_Y (hcl) ?_
          rintro ⟨va, hva⟩ _
          repeat' (first | (refine go_Y ?_; intros) | (refine gs_Y ?_ ?_ <;> (intro hgd; try (simp only [Bool.not_true, Bool.not_false] at hgd))) | (refine gc_Y ?_ ?_ <;> intro _) | fail)
          refine cont_map (fun _ h => rel_in (b := b) (r := { r' with turns := IntKind.u64.wrap (r'.turns + 1) }) (P := P') (vs := vs') (ts := ts') (m := m') (es := es') ⟨hvc2, hsv2, hss2, hes2⟩ (Take.out takeD h)) ?_
          (refine rt_Y (y := (⟨.slice pv (l'.map valV).length cv, rfl⟩, ⟨va, hva⟩, P')) (hrs := Tryd.results13) (hv := ?_) (hφ := ?_))
          · rfl
          · exact ⟨hext, hext.vw hwas⟩
        · have hl2 := hll l2 ha2
          rw [ha2] at hDe
          simp only [Option.getD_some] at hDe
          subst hDe
          have hcl := cloneV_spec v2 P' l2 hv2 hl2
          repeat' (first | (refine go_Y ?_; intros) | (refine gs_Y ?_ ?_ <;> (intro hgd; try (simp only [Bool.not_true, Bool.not_false] at hgd))) | (refine gc_Y ?_ ?_ <;> intro _) | fail)
          refine cl_Y (hcl) ?_
          rintro ⟨va, hva⟩ _
          repeat' (first | (refine go_Y ?_; intros) | (refine gs_Y ?_ ?_ <;> (intro hgd; try (simp only [Bool.not_true, Bool.not_false] at hgd))) | (refine gc_Y ?_ ?_ <;> intro _) | fail)
          refine cont_map (fun _ h => rel_in (b := b) (r := { r' with turns := IntKind.u64.wrap (r'.turns + 1) }) (P := P') (vs := vs') (ts := ts') (m := m') (es := es') ⟨hvc2, hsv2, hss2, hes2⟩ (Take.out takeD h)) ?_
          (refine rt_Y (y := (⟨.slice pv (l'.map valV).length cv, rfl⟩, ⟨va, hva⟩, P')) (hrs := Tryd.results13) (hv := ?_) (hφ := ?_))
          · rfl
          · exact ⟨hext, hext.vw hwas⟩
end Go.Proofs.YtbagfdolcabniaaDoor
