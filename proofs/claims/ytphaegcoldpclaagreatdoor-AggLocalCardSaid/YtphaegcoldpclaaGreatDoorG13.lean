/- Texts merged: TxA TxB TxC. -/
import Derived.Test.YtphaegcoldpclaaGreatDoorG12
import Derived.Test.YtphaegcoldpclaaGreatDoorRkP
set_option linter.unusedSimpArgs false
set_option linter.unusedVariables false
set_option maxRecDepth 100000
namespace Go.Proofs.YtphaegcoldpclaaGreatDoor
open Go Go.Fx Go.Proofs Go.Pl

theorem relClone_call (args : Array Value) (w : World) : (callFunc 89 args).run Tryz.prog w = ((Extern.MapsClone.clone args).run Tryz.prog w).andThen fun v w' => .ok (.value v) w' :=
  run_callFunc_extern Tryz.func89 (by kernel_rfl) (by kernel_rfl) (by kernel_rfl) (by kernel_rfl) args w
theorem mapClone_spec (m : Nat) (l : List (Pc × Value)) : FSpec Tryz.prog 58 [.map (some m)] [mapK KPlace m l] Nat (fun _ => True) (fun b => .map (some b)) (fun b => [mapK KPlace b l, mapK KPlace m l]) := by
  refine spec_intro [] _ Tryz.func58 rfl Tryz.ntmps58 (by rfl) (fun w0 R => ?_)
  repeat' (first | (refine go_Y ?_; intros) | (refine gs_Y ?_ ?_ <;> (intro hgd; try (simp only [Bool.not_true, Bool.not_false] at hgd))) | (refine gc_Y ?_ ?_ <;> intro _) | fail)
  refine clV_Y (vspec_clone relClone_call KPlace 110 m l) ?_
  intro y _
  repeat' (first | (refine go_Y ?_; intros) | (refine gs_Y ?_ ?_ <;> (intro hgd; try (simp only [Bool.not_true, Bool.not_false] at hgd))) | (refine gc_Y ?_ ?_ <;> intro _) | fail)
  (refine rt_Y (y := y) (hrs := Tryz.results58) (hv := ?_) (hφ := ?_))
  · rfl
  · trivial
theorem relCopy_spec (b : Nat) (r : Rl) (P : HProp) : FSpec Tryz.prog 24 [.pointer (some ⟨b, 0, none⟩)] [relP P b r] Nat (fun _ => True) (fun y => .pointer (some ⟨y, 0, none⟩)) (fun y => [relP P y r, relP P b r]) := by
  refine fspec_ex ?_
  rintro ⟨⟨vs, ts, m, es⟩, hy⟩
  have hvc := hy.vc
  dsimp only at hvc
  unfold relL
  dsimp only
  refine spec_intro [] _ Tryz.func24 rfl Tryz.ntmps24 (by rfl) (fun w0 R => ?_)
  repeat' (first | (refine go_Y ?_; intros) | (refine gs_Y ?_ ?_ <;> (intro hgd; try (simp only [Bool.not_true, Bool.not_false] at hgd))) | (refine gc_Y ?_ ?_ <;> intro _) | fail)
  refine ok_drawL (cv := []) [8] ([pts b (.cells [vs, .map (some m), .int .u64 r.turns].toArray 112)]) (takeD) (by kernel_rfl) rfl (by decide +kernel) ?_
  repeat' (first | (refine go_Y ?_; intros) | (refine gs_Y ?_ ?_ <;> (intro hgd; try (simp only [Bool.not_true, Bool.not_false] at hgd))) | (refine gc_Y ?_ ?_ <;> intro _) | fail)
  refine clN_Y (mapClone_spec m es) ?_
  intro m2 _
  repeat' (first | (refine go_Y ?_; intros) | (refine gs_Y ?_ ?_ <;> (intro hgd; try (simp only [Bool.not_true, Bool.not_false] at hgd))) | (refine gc_Y ?_ ?_ <;> intro _) | fail)
  rename_i b2
  refine cont_map (fun _ h => rel_in (b := b) (r := r) hy (Take.out takeD h)) ?_
  refine cont_map (fun _ h => rel_in (b := b2) (r := r) (vs := vs) (ts := ts) (m := m2) (es := es) ⟨hvc, hy.sv, hy.s, hy.es⟩ (Take.out takeD h)) ?_
  (refine rt_Y (y := b2) (hrs := Tryz.results24) (hv := ?_) (hφ := ?_))
  · rfl
  · trivial

end Go.Proofs.YtphaegcoldpclaaGreatDoor
set_option linter.unusedSimpArgs false
set_option linter.unusedVariables false
set_option maxRecDepth 100000
namespace Go.Pl
open Go
structure Chg where
  kind : Int
  table : Int
  bef : List Vl
  aft : List Vl
structure Tx where
  own : Rl
  t0 : Int
  redo : List Opr
  l : List Chg
  over : Bool
def Tx.doT (x : Tx) (o : Opr) : Tx × Int :=
  if x.over then (x, 150) else if 60 ≤ x.l.length then (x, 4) else
  if (x.own.doOp o).2.2.2 ≠ 0 then (x, (x.own.doOp o).2.2.2)
  else ({ x with own := (x.own.doOp o).1, redo := x.redo ++ [o], l := x.l ++ [⟨o.kind, o.table, (x.own.doOp o).2.1, (x.own.doOp o).2.2.1⟩] }, 0)
structure Tx.Ok (x : Tx) : Prop where
  own : x.own.Ok
  len : x.l.length ≤ 60
  rlen : x.redo.length = x.l.length
  rows : ∀ o ∈ x.redo, o.row.length ≤ 1000000 ∧ ∀ v ∈ o.row, v.wf
  chg : ∀ c ∈ x.l, c.bef.length ≤ 1000000 ∧ c.aft.length ≤ 1000000
  t0 : 0 ≤ x.t0
  t1 : x.t0 ≤ 18446744073709551615
end Go.Pl
namespace Go.Proofs.YtphaegcoldpclaaGreatDoor
open Go Go.Fx Go.Proofs Go.Pl

theorem row_shape' {e n : Nat} {v : Value} {xs : List (List Value)} {L R : List HProp} (hn : 0 < n) (t : Take L [row e n v xs] R) (h : Frag) (s : SatL L h) : ∃ p c, v = .slice p xs.length c ∧ xs.length ≤ c := by
  obtain ⟨h1, _, _, _, _, hr, _⟩ := t.out s
  obtain ⟨p, c, rfl⟩ : ∃ p c, v = .slice p xs.length c := by
    obtain ⟨_, (⟨rfl, rfl⟩ | ⟨b, c, _, rfl, _⟩)⟩ := hr
    · exact ⟨none, 0, rfl⟩
    · exact ⟨_, c, rfl⟩
  exact ⟨p, c, rfl, row_cap hn hr⟩
structure Rm where
  bx : Nat
  kind : Int
  table : Int
  w : V1s
  row : List Vl
def Rm.c (x : Rm) : Opr := ⟨x.kind, x.table, x.row⟩
structure RmR (P : HProp) (x : Rm) : Prop where
  rd : Rd P x.bx (.cells [.int .u8 x.kind, .int .i64 x.table, x.w.1].toArray 64)
  vw : Vw P 4 x.w.1 (x.row.map valV)
theorem Ext.rd {P P' : HProp} (a : Ext P P') {b : Nat} {o : Obj} (h : Rd P b o) : Rd P' b o := fun f hf => by
  obtain ⟨h', l, p⟩ := a f hf
  exact l _ _ (h h' p)
theorem RmR.ext {P P' : HProp} (a : Ext P P') {x : Rm} (h : RmR P x) : RmR P' x := ⟨Ext.rd a h.rd, a.vw h.vw⟩
structure Cm where
  kind : Int
  table : Int
  bv : V1s
  bef : List Vl
  av : V1s
  aft : List Vl
def cmV (x : Cm) : List Value := [.int .u8 x.kind, .int .i64 x.table, x.bv.1, x.av.1]
def Cm.c (x : Cm) : Chg := ⟨x.kind, x.table, x.bef, x.aft⟩
structure CmR (P : HProp) (x : Cm) : Prop where
  bv : Vw P 4 x.bv.1 (x.bef.map valV)
  av : Vw P 4 x.av.1 (x.aft.map valV)
theorem CmR.ext {P P' : HProp} (a : Ext P P') {x : Cm} (h : CmR P x) : CmR P' x := ⟨a.vw h.bv, a.vw h.av⟩
structure TxY where
  bw : Nat
  vr : Value
  rs : List Rm
  vl : Value
  cs : List Cm
structure TxOK (P : HProp) (x : Tx) (y : TxY) : Prop where
  vr : y.vr.oneCell' = true
  vl : y.vl.oneCell' = true
  rs : ∀ r ∈ y.rs, RmR P r
  redo : y.rs.map Rm.c = x.redo
  cs : ∀ c ∈ y.cs, CmR P c
  l : y.cs.map Cm.c = x.l
theorem TxOK.ext {P P' : HProp} (a : Ext P P') {x : Tx} {y : TxY} (h : TxOK P x y) : TxOK P' x y := ⟨h.vr, h.vl, fun r hr => (h.rs r hr).ext a, h.redo, fun c hc => (h.cs c hc).ext a, h.l⟩
end Go.Proofs.YtphaegcoldpclaaGreatDoor
set_option linter.unusedSimpArgs false
set_option linter.unusedVariables false
set_option maxRecDepth 100000
set_option pp.deepTerms true
set_option pp.maxSteps 200000
namespace Go.Proofs.YtphaegcoldpclaaGreatDoor
open Go Go.Fx Go.Proofs Go.Pl

theorem did_len {r : Rl} (hok : r.Ok) (o : Opr) (hl : o.row.length ≤ 1000000) : (r.doOp o).2.1.length ≤ 1000000 ∧ (r.doOp o).2.2.1.length ≤ 1000000 := by
  rcases doOp_did r o with ⟨_, _, e1, e2⟩ | ⟨_, p, d⟩
  · rw [e1, e2]; exact ⟨by simp, by simp⟩
  · refine ⟨?_, ?_⟩
    · rw [d.was]
      cases hg : aget p r.rows with
      | none => simp
      | some l => have := row_len hok hg; show l.length ≤ _; omega
    · rcases d.kind with ⟨_, _, _, e⟩ | ⟨_, _, _, e⟩ | ⟨_, _, _, e⟩
      · rw [e]; exact hl
      · rw [e]; exact hl
      · rw [e]; simp
theorem Tx.Ok.doT {x : Tx} (h : x.Ok) {o : Opr} (hl : o.row.length ≤ 1000000) (hw : ∀ v ∈ o.row, v.wf) : (x.doT o).1.Ok := by
  unfold Tx.doT
  split
  · exact h
  split
  · exact h
  split
  · exact h
  · rename_i h1 h2 h3
    obtain ⟨l1, l2⟩ := did_len h.own o hl
    refine ⟨h.own.doOp o, ?_, ?_, ?_, ?_, h.t0, h.t1⟩
    · dsimp only; rw [List.length_append, List.length_singleton]; omega
    · dsimp only; rw [List.length_append, List.length_append, h.rlen]; rfl
    · intro q hq
      rcases List.mem_append.1 hq with hq | hq
      · exact h.rows q hq
      · rw [List.mem_singleton] at hq; subst hq; exact ⟨hl, hw⟩
    · intro q hq
      rcases List.mem_append.1 hq with hq | hq
      · exact h.chg q hq
      · rw [List.mem_singleton] at hq; subst hq; exact ⟨l1, l2⟩

end Go.Proofs.YtphaegcoldpclaaGreatDoor
