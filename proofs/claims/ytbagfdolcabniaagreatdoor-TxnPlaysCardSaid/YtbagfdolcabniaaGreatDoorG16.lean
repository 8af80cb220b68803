/- Texts merged: QdA QdB QdC QdD. -/
import Derived.Test.YtbagfdolcabniaaGreatDoorG15
import Derived.Test.YtbagfdolcabniaaGreatDoorG14
import Derived.Test.YtbagfdolcabniaaGreatDoorG11
/- The reference's transaction (fascicleref15), in memory: New, Do. -/
-- @DEFS Y
set_option linter.unusedSimpArgs false
set_option linter.unusedVariables false
set_option maxRecDepth 100000
namespace Go.Proofs.YtbagfdolcabniaaGreatDoor
open Go Go.Fx Go.Proofs Go.Pl

theorem fspec_learn {P : Program} {f : FuncId} {args : List Value} {pre : List HProp} {Y : Type} {φ : Y → Prop} {ret : Y → Value} {post : Y → List HProp} {φ0 : Prop} (k : ∀ R h, SatL (pre ++ R) h → φ0) (h : φ0 → FSpec P f args pre Y φ ret post) : FSpec P f args pre Y φ ret post :=
  fun w0 w R hs => h (k R _ hs.heap) w0 w R hs
section
variable {X : Cx} {ops : Array Oper} {nb : NB} {N : Act → World → Prop} {i : Nat} {os : List Oper} {Ls : List HProp} {ds : List Deferred} {ρ : Regs} {L L' : List HProp} {Q : Exit → Act → World → Prop}
/-- An owned row, laid into the pool. -/
theorem cont_pool1 {e : Exit} {ty n : Nat} {v : Value} {xs : List (List Value)} {P : HProp} (t : Take L [row ty n v xs, P] L') (h : ∀ P', Ext P P' → Vw P' n v xs → Cont X Q e ds ρ (P' :: L')) : Cont X Q e ds ρ L :=
  cont_map (fun _ s => pool_in (Take.out2 t s)) (h _ (Ext.pool _ _) pool_row)
theorem ok_pool1 {c : Code} {ty n : Nat} {v : Value} {xs : List (List Value)} {P : HProp} (t : Take L [row ty n v xs, P] L') (h : ∀ P', Ext P P' → Vw P' n v xs → Ok X c ds ρ (P' :: L') Q) : Ok X c ds ρ L Q :=
  ok_map (fun _ s => pool_in (Take.out2 t s)) (h _ (Ext.pool _ _) pool_row)
theorem ops_pool1 {ty n : Nat} {v : Value} {xs : List (List Value)} {P : HProp} (t : Take L [row ty n v xs, P] L') (h : ∀ P', Ext P P' → Vw P' n v xs → OpsL X ops nb N i os Ls ds ρ (P' :: L')) : OpsL X ops nb N i os Ls ds ρ L :=
  opsL_mapL (fun _ s => pool_in (Take.out2 t s)) (h _ (Ext.pool _ _) pool_row)
end
structure RtY where
  bo : Nat
  vo : Value
  os : List Om
  vl : Value
  cs : List Cm
structure RtOK (P : HProp) (x : Tx) (y : RtY) : Prop where
  vo : y.vo.oneCell' = true
  vl : y.vl.oneCell' = true
  os : ∀ o ∈ y.os, Vw P 4 o.rv.1 (o.row.map valV)
  redo : y.os.map Om.c = x.redo
  cs : ∀ c ∈ y.cs, CmR P c
  l : y.cs.map Cm.c = x.l
theorem RtOK.ext {P P' : HProp} (a : Ext P P') {x : Tx} {y : RtY} (h : RtOK P x y) : RtOK P' x y := ⟨h.vo, h.vl, fun o ho => a.vw (h.os o ho), h.redo, fun c hc => (h.cs c hc).ext a, h.l⟩
/-- The reference's transaction in memory, at b, on the state at bn; P: the pool. -/
def rtL (P : HProp) (b bn : Nat) (x : Tx) (y : { y : RtY // RtOK P x y }) : List HProp :=
  [pts b (.cells [.pointer (some ⟨bn, 0, none⟩), .pointer (some ⟨y.1.bo, 0, none⟩), y.1.vo, y.1.vl, .bool x.over].toArray 68), row 39 3 y.1.vo (y.1.os.map opV), row 129 4 y.1.vl (y.1.cs.map cmV), rfP P y.1.bo x.own]
def rtP (P : HProp) (b bn : Nat) (x : Tx) : HProp := exP (rtL P b bn x)
theorem rt_in {P : HProp} {b bn bo : Nat} {x : Tx} {vo vl : Value} {os : List Om} {cs : List Cm} {ov : Bool} {ow : Rl} (hov : x.over = ov) (how : x.own = ow) (hy : RtOK P x ⟨bo, vo, os, vl, cs⟩) {L : List HProp} {h : Frag}
    (s : SatL ([pts b (.cells [.pointer (some ⟨bn, 0, none⟩), .pointer (some ⟨bo, 0, none⟩), vo, vl, .bool ov].toArray 68), row 39 3 vo (os.map opV), row 129 4 vl (cs.map cmV), rfP P bo ow] ++ L) h) : SatL (rtP P b bn x :: L) h := by
  subst hov how
  exact ex_in (M := rtL P b bn x) ⟨⟨bo, vo, os, vl, cs⟩, hy⟩ rfl s
theorem rtP_ext {P P' : HProp} (a : Ext P P') {b bn : Nat} {x : Tx} {L : List HProp} {h : Frag} (s : SatL (rtP P b bn x :: L) h) : SatL (rtP P' b bn x :: L) h := by
  obtain ⟨h1, h2, ha, l1, l2, ⟨⟨⟨bo, vo, os, vl, cs⟩, hy⟩, hx⟩, hL⟩ := s
  have s2 : SatL (rtL P b bn x ⟨⟨bo, vo, os, vl, cs⟩, hy⟩ ++ L) h := SatL.flat (M := rtL P b bn x ⟨⟨bo, vo, os, vl, cs⟩, hy⟩) (L := L) ⟨h1, h2, ha, l1, l2, hx, hL⟩
  refine rt_in (bo := bo) (vo := vo) (os := os) (vl := vl) (cs := cs) rfl rfl (hy.ext a) ?_
  unfold rtL at s2
  exact SatL.consMono s2 fun _ s2 => SatL.consMono s2 fun _ s2 => SatL.consMono s2 fun _ s2 => rfP_ext a s2
set_option maxHeartbeats 2000000 in
theorem rtNew_spec (b : Nat) (r : Rl) (P : HProp) (hok : r.Ok) :
    FSpec Tryz.prog 25 [.pointer (some ⟨b, 0, none⟩)] [rfP P b r, P] (Nat × HProp) (fun y => Ext P y.2) (fun y => .pointer (some ⟨y.1, 0, none⟩)) (fun y => [rtP y.2 y.1 b ⟨r, r.turns, [], [], false⟩, rfP y.2 b r, y.2]) := by
  refine spec_intro [] _ Tryz.func25 rfl Tryz.ntmps25 (by rfl) (fun w0 R => ?_)
  repeat' (first | (refine go_Y ?_; intros) | (refine gs_Y ?_ ?_ <;> (intro hgd; try (simp only [Bool.not_true, Bool.not_false] at hgd))) | (refine gc_Y ?_ ?_ <;> intro _) | fail)
  refine cl_Y (copy14_spec b r P hok) ?_
  rintro ⟨bo, Q⟩ hE
  dsimp only at hE ⊢
  repeat' (first | (refine go_Y ?_; intros) | (refine gs_Y ?_ ?_ <;> (intro hgd; try (simp only [Bool.not_true, Bool.not_false] at hgd))) | (refine gc_Y ?_ ?_ <;> intro _) | fail)
  rename_i bx
  refine cont_map (fun _ h => nilRow (e := 129) (n := 4) h) ?_
  refine cont_map (fun _ h => nilRow (e := 39) (n := 3) h) ?_
  refine cont_map (fun _ h => rt_in (b := bx) (bn := b) (bo := bo) (x := ⟨r, r.turns, [], [], false⟩) (vo := .slice none 0 0) (os := []) (vl := .slice none 0 0) (cs := []) (P := Q) rfl rfl ⟨rfl, rfl, fun _ h => by simp at h, rfl, fun _ h => by simp at h, rfl⟩ (Take.out takeD h)) ?_
  (refine rt_Y (y := (bx, Q)) (hrs := Tryz.results25) (hv := ?_) (hφ := ?_))
  · rfl
  · exact hE
set_option maxHeartbeats 8000000 in
theorem rtDo_spec (u bn : Nat) (x : Tx) (o : Opr) (w : Value) (P : HProp) (hx : x.Ok) (hwfx : Rl.Wf x.own) (hU : UT P) (hw : Vw P 4 w (o.row.map valV)) (hwc : w.oneCell' = true) (hwf : ∀ v ∈ o.row, v.wf) (hlen : o.row.length ≤ 1000000) :
    FSpec Tryz.prog 75 [.pointer (some ⟨u, 0, none⟩), .agg #[.int .u8 o.kind, .int .i64 o.table, w]] [rtP P u bn x, P] HProp (fun P' => Ext P P') (fun _ => .int .i64 (x.doT o).2) (fun P' => [rtP P' u bn (x.doT o).1, P']) := by
  refine fspec_ex ?_
  rintro ⟨⟨bo, vo, os, vl, cs⟩, hy⟩
  have hy' := hy
  obtain ⟨hvo, hvl, hos, hredo, hcs, hl⟩ := hy
  dsimp only at hvo hvl hos hredo hcs hl
  unfold rtL
  dsimp only
  obtain ⟨kind, table, l⟩ := o
  have lcs : (cs.map cmV).length = cs.length := by simp
  have los : (os.map opV).length = os.length := by simp
  have hxl : cs.length = x.l.length := by rw [← hl]; simp
  have hxr : os.length = x.redo.length := by rw [← hredo]; simp
  have h60 := hx.len
  have hrl := hx.rlen
  dsimp only at hw hwf hlen ⊢
  cases hov : x.over with
  | true =>
    have hd : x.doT ⟨kind, table, l⟩ = (x, 150) := by unfold Tx.doT; rw [hov]; rfl
    rw [hd]
    refine spec_intro [] _ Tryz.func75 rfl Tryz.ntmps75 (by rfl) (fun w0 R => ?_)
    repeat' (first | (refine go_Y ?_; intros) | (refine gs_Y ?_ ?_ <;> (intro hgd; try (simp only [Bool.not_true, Bool.not_false] at hgd))) | (refine gc_Y ?_ ?_ <;> intro _) | fail)
    refine cont_map (fun _ h => rt_in (P := P) hov rfl hy' (Take.out takeD h)) ?_
    (refine rt_Y (y := P) (hrs := Tryz.results75) (hv := ?_) (hφ := ?_))
    · rfl
    · exact Ext.refl P
  | false =>
    refine fspec_learn (fun R => rowShapeS (e := 129) (n := 4) (v := vl) (xs := cs.map cmV) (by decide) takeD) ?_
    rintro ⟨pl, cl, rfl, hcl, hsl⟩
    cases t1 : decide ((60 : Int) ≤ ((cs.map cmV).length : Int)) with
    | true =>
      have hd : x.doT ⟨kind, table, l⟩ = (x, 4) := by unfold Tx.doT; rw [hov, if_neg (by simp), if_pos (by have := of_decide_eq_true t1; omega)]
      rw [hd]
      refine spec_intro [] _ Tryz.func75 rfl Tryz.ntmps75 (by rfl) (fun w0 R => ?_)
      repeat' (first | (refine go_Y ?_; intros) | (refine gs_Y ?_ ?_ <;> (intro hgd; try (simp only [Bool.not_true, Bool.not_false] at hgd))) | (refine gc_Y ?_ ?_ <;> intro _) | fail)
      refine cont_map (fun _ h => rt_in (P := P) hov rfl hy' (Take.out takeD h)) ?_
      (refine rt_Y (y := P) (hrs := Tryz.results75) (hv := ?_) (hφ := ?_))
      · rfl
      · exact Ext.refl P
    | false =>
      have hlt : x.l.length < 60 := by have := of_decide_eq_false t1; omega
      have hdo := do14_spec bo x.own ⟨kind, table, l⟩ w P hx.own hwfx hU hw hwc hwf
      have hdl := did_len hx.own ⟨kind, table, l⟩ hlen
      rcases doOp_did x.own ⟨kind, table, l⟩ with ⟨h0, e1, e2, e3⟩ | ⟨h0, _⟩
      · have hd : x.doT ⟨kind, table, l⟩ = (x, (x.own.doOp ⟨kind, table, l⟩).2.2.2) := by unfold Tx.doT; rw [hov, if_neg (by simp), if_neg (by omega), if_pos h0]
        rw [hd]
        rw [e1] at hdo
        have f1 : (!decide ((x.own.doOp ⟨kind, table, l⟩).2.2.2 = (0 : Int))) = true := by simp [h0]
        refine spec_intro [] _ Tryz.func75 rfl Tryz.ntmps75 (by rfl) (fun w0 R => ?_)
        repeat' (first | (refine go_Y ?_; intros) | (refine gs_Y ?_ ?_ <;> (intro hgd; try (simp only [Bool.not_true, Bool.not_false] at hgd))) | (refine gc_Y ?_ ?_ <;> intro _) | fail)
        refine cl_Y (hdo) ?_
        rintro ⟨⟨va, hva⟩, ⟨vb, hvb⟩, Q⟩ ⟨hE, hvwa⟩
        dsimp only at hE hvwa ⊢
        repeat' (first | (refine go_Y ?_; intros) | (refine gs_Y ?_ ?_ <;> (intro hgd; try (simp only [Bool.not_true, Bool.not_false] at hgd))) | (refine gc_Y ?_ ?_ <;> intro _) | fail)
        refine cont_map (fun _ h => rt_in (P := Q) hov rfl (hy'.ext hE) (Take.out takeD h)) ?_
        (refine rt_Y (y := Q) (hrs := Tryz.results75) (hv := ?_) (hφ := ?_))
        · rfl
        · exact hE
      · have hd : x.doT ⟨kind, table, l⟩ = ({ x with own := (x.own.doOp ⟨kind, table, l⟩).1, redo := x.redo ++ [⟨kind, table, l⟩], l := x.l ++ [⟨kind, table, (x.own.doOp ⟨kind, table, l⟩).2.1, (x.own.doOp ⟨kind, table, l⟩).2.2.1⟩] }, 0) := by
          unfold Tx.doT; rw [hov, if_neg (by simp), if_neg (by omega), if_neg (by simp [h0])]
        rw [hd]
        rw [h0] at hdo
        dsimp only
        generalize x.own.doOp ⟨kind, table, l⟩ = gg at hdo hdl ⊢
        obtain ⟨ow, bef, aft, code⟩ := gg
        dsimp only at hdo hdl ⊢
        obtain ⟨hdl1, hdl2⟩ := hdl
        refine fspec_learn (fun R => rowShapeS (e := 39) (n := 3) (v := vo) (xs := os.map opV) (by decide) takeD) ?_
        rintro ⟨po, co, rfl, hco, hso⟩
        refine spec_intro [] _ Tryz.func75 rfl Tryz.ntmps75 (by rfl) (fun w0 R => ?_)
        repeat' (first | (refine go_Y ?_; intros) | (refine gs_Y ?_ ?_ <;> (intro hgd; try (simp only [Bool.not_true, Bool.not_false] at hgd))) | (refine gc_Y ?_ ?_ <;> intro _) | fail)
        rename_i b3
        refine cl_Y (hdo) ?_
        rintro ⟨⟨va, hva⟩, ⟨vb, hvb⟩, Q⟩ ⟨hE, hvwa⟩
        dsimp only at hE hvwa ⊢
        have hcpy := copy04_spec bef va Q hvwa (by omega)
        have hcp2 := copy04_spec l w Q (hE.vw hw) (by omega)
        repeat' (first | (refine go_Y ?_; intros) | (refine gs_Y ?_ ?_ <;> (intro hgd; try (simp only [Bool.not_true, Bool.not_false] at hgd))) | (refine gc_Y ?_ ?_ <;> intro _) | fail)
        refine ok_map (L' := [Q, pts u (.cells [.pointer (some ⟨bn, 0, none⟩), .pointer (some ⟨bo, 0, none⟩), .slice po (os.map opV).length co, .slice pl (cs.map cmV).length cl, .bool false].toArray 68), row 39 3 (.slice po (os.map opV).length co) (os.map opV), row 129 4 (.slice pl (cs.map cmV).length cl) (cs.map cmV), rfP Q bo ow, row 50 4 vb (aft.map valV), pts b3 (.cells [.int .u8 kind, .int .i64 table, w].toArray 39)] ++ R) entD ?_
        refine ok_learn (rowShapeS (e := 50) (n := 4) (v := vb) (xs := aft.map valV) (by decide) takeD) ?_
        rintro ⟨pb, cb, rfl, hcb, hsb⟩
        (apply ok_draw [10, 13]; (focus (kernel_rfl)); (focus ((conv => lhs; whnf); first | done | rfl)); (focus (decide +kernel)); (focus (exact (fun _ h => h))))
        repeat' (first | (refine go_Y ?_; intros) | (refine gs_Y ?_ ?_ <;> (intro hgd; try (simp only [Bool.not_true, Bool.not_false] at hgd))) | (refine gc_Y ?_ ?_ <;> intro _) | fail)
        refine clN_Y (hcpy) ?_
        rintro ⟨vn, hvn⟩ _
        refine ops_learn (rowShapeS (e := 50) (n := 4) (v := vn) (xs := bef.map valV) (by decide) takeD) ?_
        rintro ⟨pn, cn, rfl, hcn, hsn⟩
        repeat' (first | (refine go_Y ?_; intros) | (refine gs_Y ?_ ?_ <;> (intro hgd; try (simp only [Bool.not_true, Bool.not_false] at hgd))) | (refine gc_Y ?_ ?_ <;> intro _) | fail)
        rename_i v1 hv1 v2 hv2
        refine cl_Y (hcp2) ?_
        rintro ⟨vm, hvm⟩ _
        refine ops_learn (rowShapeS (e := 50) (n := 4) (v := vm) (xs := l.map valV) (by decide) takeD) ?_
        rintro ⟨pm, cm, rfl, hcm, hsm⟩
        repeat' (first | (refine go_Y ?_; intros) | (refine gs_Y ?_ ?_ <;> (intro hgd; try (simp only [Bool.not_true, Bool.not_false] at hgd))) | (refine gc_Y ?_ ?_ <;> intro _) | fail)
        (apply ok_draw [6]; (focus (kernel_rfl)); (focus ((conv => lhs; whnf); first | done | rfl)); (focus (decide +kernel)); (focus (exact (fun _ h => h))))
        repeat' (first | (refine go_Y ?_; intros) | (refine gs_Y ?_ ?_ <;> (intro hgd; try (simp only [Bool.not_true, Bool.not_false] at hgd))) | (refine gc_Y ?_ ?_ <;> intro _) | fail)
        rename_i v3 hv3 v4 hv4
        refine cont_pool1 (ty := 50) (n := 4) (v := .slice pn (bef.map valV).length cn) (xs := bef.map valV) (P := Q) takeD ?_
        intro Q1 g1 w1
        refine cont_pool1 (ty := 50) (n := 4) (v := .slice pb (aft.map valV).length cb) (xs := aft.map valV) (P := Q1) takeD ?_
        intro Q2 g2 w2
        refine cont_pool1 (ty := 50) (n := 4) (v := .slice pm (l.map valV).length cm) (xs := l.map valV) (P := Q2) takeD ?_
        intro Q3 g3 w3
        have gg := (g1.trans g2).trans g3
        refine cont_map (fun _ h => rfP_ext gg (b := bo) (r := ow) (Take.out1 (A := rfP Q bo ow) takeD h)) ?_
        refine cont_map (L' := [Q3, pts u (.cells [.pointer (some ⟨bn, 0, none⟩), .pointer (some ⟨bo, 0, none⟩), v4, v2, .bool false].toArray 68), row 39 3 v4 ((os ++ ([⟨kind, table, ⟨.slice pm (l.map valV).length cm, rfl⟩, l⟩] : List Om)).map opV), row 129 4 v2 ((cs ++ ([⟨kind, table, ⟨.slice pn (bef.map valV).length cn, rfl⟩, bef, ⟨.slice pb (aft.map valV).length cb, rfl⟩, aft⟩] : List Cm)).map cmV), rfP Q3 bo ow] ++ R) (by rw [List.map_append, List.map_append]; exact entD) ?_
        refine cont_map (fun _ h => rt_in (P := Q3) (b := u) (bn := bn) (bo := bo) (x := { x with own := ow, redo := x.redo ++ [⟨kind, table, l⟩], l := x.l ++ [⟨kind, table, bef, aft⟩] }) (vo := v4) (vl := v2) (os := os ++ ([⟨kind, table, ⟨.slice pm (l.map valV).length cm, rfl⟩, l⟩] : List Om)) (cs := cs ++ ([⟨kind, table, ⟨.slice pn (bef.map valV).length cn, rfl⟩, bef, ⟨.slice pb (aft.map valV).length cb, rfl⟩, aft⟩] : List Cm)) hov rfl
          ⟨hv4, hv2, fun o ho => by
            rcases List.mem_append.1 ho with ho | ho
            · exact (hE.trans gg).vw (hos o ho)
            · rw [List.mem_singleton] at ho; subst ho; exact w3, by dsimp only; rw [List.map_append, hredo]; rfl, fun c hc => by
            rcases List.mem_append.1 hc with hc | hc
            · exact (hcs c hc).ext (hE.trans gg)
            · rw [List.mem_singleton] at hc; subst hc; exact ⟨(g2.trans g3).vw w1, g3.vw w2⟩, by dsimp only; rw [List.map_append, hl]; rfl⟩ (Take.out takeD h)) ?_
        (refine rt_Y (y := Q3) (hrs := Tryz.results75) (hv := ?_) (hφ := ?_))
        · rfl
        · exact hE.trans gg
set_option maxHeartbeats 2000000 in
theorem rtAbort_spec (u bn : Nat) (x : Tx) (P : HProp) : FSpec Tryz.prog 74 [.pointer (some ⟨u, 0, none⟩)] [rtP P u bn x] Unit (fun _ => True) (fun _ => .int .i64 (if x.over then 150 else 0)) (fun _ => [rtP P u bn x.abortT]) := by
  refine fspec_ex ?_
  rintro ⟨⟨bo, vo, os, vl, cs⟩, hy⟩
  unfold rtL
  dsimp only
  have hya : RtOK P x.abortT ⟨bo, vo, os, vl, cs⟩ := ⟨hy.vo, hy.vl, hy.os, hy.redo, hy.cs, hy.l⟩
  cases hov : x.over with
  | true =>
    rw [if_pos rfl]
    refine spec_intro [] _ Tryz.func74 rfl Tryz.ntmps74 (by rfl) (fun w0 R => ?_)
    repeat' (first | (refine go_Y ?_; intros) | (refine gs_Y ?_ ?_ <;> (intro hgd; try (simp only [Bool.not_true, Bool.not_false] at hgd))) | (refine gc_Y ?_ ?_ <;> intro _) | fail)
    refine cont_map (fun _ h => rt_in (P := P) (x := x.abortT) (ov := true) rfl rfl hya (Take.out takeD h)) ?_
    (refine rt_Y (y := ()) (hrs := Tryz.results74) (hv := ?_) (hφ := ?_))
    · rfl
    · trivial
  | false =>
    rw [if_neg (by simp)]
    refine spec_intro [] _ Tryz.func74 rfl Tryz.ntmps74 (by rfl) (fun w0 R => ?_)
    repeat' (first | (refine go_Y ?_; intros) | (refine gs_Y ?_ ?_ <;> (intro hgd; try (simp only [Bool.not_true, Bool.not_false] at hgd))) | (refine gc_Y ?_ ?_ <;> intro _) | fail)
    refine cont_map (fun _ h => rt_in (P := P) (x := x.abortT) (ov := true) rfl rfl hya (Take.out takeD h)) ?_
    (refine rt_Y (y := ()) (hrs := Tryz.results74) (hv := ?_) (hφ := ?_))
    · rfl
    · trivial
end Go.Proofs.YtbagfdolcabniaaGreatDoor
/- The reference's transaction (fascicleref15), in memory: Check, Commit. -/
-- @DEFS Y
set_option linter.unusedSimpArgs false
set_option linter.unusedVariables false
set_option maxRecDepth 100000
namespace Go.Proofs.YtbagfdolcabniaaGreatDoor
open Go Go.Fx Go.Proofs Go.Pl

theorem wrap_stale {a t n o : Int} (a0 : 0 ≤ a) (a1 : a ≤ 18446744073709551615) (t0 : 0 ≤ t) (t1 : t ≤ 18446744073709551615) (n0 : 0 ≤ n) (n1 : n ≤ 1000) (h : o = IntKind.u64.wrap (t + n)) : (IntKind.u64.wrap (a + IntKind.u64.wrap n) = o) ↔ a = t := by
  have e : ∀ m : Int, IntKind.u64.wrap m = m % 18446744073709551616 := fun _ => rfl
  rw [h, e, e, e]
  omega
set_option maxHeartbeats 4000000 in
theorem rtCheckO (u bn bo : Nat) (x : Tx) (r : Rl) (P : HProp) (vo vl vs1 vr1 vs2 vr2 : Value) (ts1 : List Tb) (q1 : List Rr) (os : List Om) (hx : x.Ok) (hwf : Rl.Wf x.own) (hok : r.Ok) (ho : os.length = x.redo.length) (hy : RfOK P x.own ⟨vs1, ts1, vr1, q1⟩)
    (hinv : x.own.turns = IntKind.u64.wrap (x.t0 + x.redo.length)) :
    FSpec Tryz.prog 71 [.pointer (some ⟨u, 0, none⟩)] [pts u (.cells [.pointer (some ⟨bn, 0, none⟩), .pointer (some ⟨bo, 0, none⟩), vo, vl, .bool x.over].toArray 68), row 39 3 vo (os.map opV), pts bo (.cells [vs1, vr1, .int .u64 x.own.turns].toArray 47), row 114 2 vr1 (q1.map rrV), pts bn (.cells [vs2, vr2, .int .u64 r.turns].toArray 47), P] Unit (fun _ => True)
      (fun _ => .int .i64 (x.checkT r)) (fun _ => [pts u (.cells [.pointer (some ⟨bn, 0, none⟩), .pointer (some ⟨bo, 0, none⟩), vo, vl, .bool x.over].toArray 68), row 39 3 vo (os.map opV), pts bo (.cells [vs1, vr1, .int .u64 x.own.turns].toArray 47), row 114 2 vr1 (q1.map rrV), pts bn (.cells [vs2, vr2, .int .u64 r.turns].toArray 47), P]) := by
  have los : (os.map opV).length = os.length := by simp
  have h60 := hx.len
  have hrl := hx.rlen
  have hw := whole14o_spec bo x.own P vs1 vr1 ts1 q1 hx.own hwf hy
  have hst := wrap_stale (a := r.turns) (t := x.t0) (n := ((os.map opV).length : Int)) (o := x.own.turns) hok.t0 hok.t1 hx.t0 hx.t1 (by omega) (by omega) (by rw [los, ho]; exact hinv)
  refine fspec_learn (fun R => rowShapeS (e := 39) (n := 3) (v := vo) (xs := os.map opV) (by decide) takeD) ?_
  rintro ⟨po, co, rfl, hco, hso⟩
  unfold Tx.checkT
  cases hov : x.over with
  | true =>
    rw [if_pos rfl]
    refine spec_intro [] _ Tryz.func71 rfl Tryz.ntmps71 (by rfl) (fun w0 R => ?_)
    repeat' (first | (refine go_Y ?_; intros) | (refine gs_Y ?_ ?_ <;> (intro hgd; try (simp only [Bool.not_true, Bool.not_false] at hgd))) | (refine gc_Y ?_ ?_ <;> intro _) | fail)
    (refine rt_Y (y := ()) (hrs := Tryz.results71) (hv := ?_) (hφ := ?_))
    · rfl
    · trivial
  | false =>
    rw [if_neg (by simp)]
    cases t1 : decide (IntKind.u64.wrap (r.turns + IntKind.u64.wrap ((os.map opV).length : Int)) = x.own.turns) with
    | false =>
      rw [if_pos (fun e => of_decide_eq_false t1 (hst.2 e))]
      have t1' : (!decide (IntKind.u64.wrap (arith BinOp.add r.turns (IntKind.u64.wrap ((os.map opV).length : Int))) = x.own.turns)) = true := congrArg not t1
      refine spec_intro [] _ Tryz.func71 rfl Tryz.ntmps71 (by rfl) (fun w0 R => ?_)
      repeat' (first | (refine go_Y ?_; intros) | (refine gs_Y ?_ ?_ <;> (intro hgd; try (simp only [Bool.not_true, Bool.not_false] at hgd))) | (refine gc_Y ?_ ?_ <;> intro _) | fail)
      (refine rt_Y (y := ()) (hrs := Tryz.results71) (hv := ?_) (hφ := ?_))
      · rfl
      · trivial
    | true =>
      rw [if_neg (by simpa using hst.1 (of_decide_eq_true t1))]
      have t1' : (!decide (IntKind.u64.wrap (arith BinOp.add r.turns (IntKind.u64.wrap ((os.map opV).length : Int))) = x.own.turns)) = false := congrArg not t1
      cases hwh : x.own.whole with
      | true =>
        rw [hwh] at hw
        rw [cond_true]
        refine spec_intro [] _ Tryz.func71 rfl Tryz.ntmps71 (by rfl) (fun w0 R => ?_)
        repeat' (first | (refine go_Y ?_; intros) | (refine gs_Y ?_ ?_ <;> (intro hgd; try (simp only [Bool.not_true, Bool.not_false] at hgd))) | (refine gc_Y ?_ ?_ <;> intro _) | fail)
        refine cl_Y (hw) ?_
        intro _ _
        repeat' (first | (refine go_Y ?_; intros) | (refine gs_Y ?_ ?_ <;> (intro hgd; try (simp only [Bool.not_true, Bool.not_false] at hgd))) | (refine gc_Y ?_ ?_ <;> intro _) | fail)
        (refine rt_Y (y := ()) (hrs := Tryz.results71) (hv := ?_) (hφ := ?_))
        · rfl
        · trivial
      | false =>
        rw [hwh] at hw
        rw [cond_false]
        refine spec_intro [] _ Tryz.func71 rfl Tryz.ntmps71 (by rfl) (fun w0 R => ?_)
        repeat' (first | (refine go_Y ?_; intros) | (refine gs_Y ?_ ?_ <;> (intro hgd; try (simp only [Bool.not_true, Bool.not_false] at hgd))) | (refine gc_Y ?_ ?_ <;> intro _) | fail)
        refine cl_Y (hw) ?_
        intro _ _
        repeat' (first | (refine go_Y ?_; intros) | (refine gs_Y ?_ ?_ <;> (intro hgd; try (simp only [Bool.not_true, Bool.not_false] at hgd))) | (refine gc_Y ?_ ?_ <;> intro _) | fail)
        (refine rt_Y (y := ()) (hrs := Tryz.results71) (hv := ?_) (hφ := ?_))
        · rfl
        · trivial
theorem rtCheckL (u bn bo : Nat) (x : Tx) (r : Rl) (P : HProp) (vo vl : Value) (os : List Om) (cs : List Cm) (hx : x.Ok) (hwf : Rl.Wf x.own) (hok : r.Ok) (hinv : x.own.turns = IntKind.u64.wrap (x.t0 + x.redo.length)) (hy : RtOK P x ⟨bo, vo, os, vl, cs⟩) :
    FSpec Tryz.prog 71 [.pointer (some ⟨u, 0, none⟩)] [pts u (.cells [.pointer (some ⟨bn, 0, none⟩), .pointer (some ⟨bo, 0, none⟩), vo, vl, .bool x.over].toArray 68), row 39 3 vo (os.map opV), row 129 4 vl (cs.map cmV), rfP P bo x.own, rfP P bn r, P] Unit (fun _ => True) (fun _ => .int .i64 (x.checkT r)) (fun _ => [pts u (.cells [.pointer (some ⟨bn, 0, none⟩), .pointer (some ⟨bo, 0, none⟩), vo, vl, .bool x.over].toArray 68), row 39 3 vo (os.map opV), row 129 4 vl (cs.map cmV), rfP P bo x.own, rfP P bn r, P]) := by
  refine FSpec.conseq (pre := [rfP P bo x.own, rfP P bn r, pts u (.cells [.pointer (some ⟨bn, 0, none⟩), .pointer (some ⟨bo, 0, none⟩), vo, vl, .bool x.over].toArray 68), row 39 3 vo (os.map opV), row 129 4 vl (cs.map cmV), P])
    (post := fun _ => [rfP P bo x.own, rfP P bn r, pts u (.cells [.pointer (some ⟨bn, 0, none⟩), .pointer (some ⟨bo, 0, none⟩), vo, vl, .bool x.over].toArray 68), row 39 3 vo (os.map opV), row 129 4 vl (cs.map cmV), P]) (φ := fun _ => True) (ret := fun _ => .int .i64 (x.checkT r)) ?_ (fun _ => entD) (fun y hy' => ⟨y, hy', rfl, fun R h s => by
    refine (?_ : ∀ h, SatL _ h → SatL _ h) h s
    exact entD⟩)
  refine fspec_ex ?_
  rintro ⟨⟨vs1, ts1, vr1, q1⟩, hy1⟩
  unfold rfL
  dsimp only
  refine FSpec.conseq (pre := [rfP P bn r, pts bo (.cells [vs1, vr1, .int .u64 x.own.turns].toArray 47), row 114 2 vr1 (q1.map rrV), pts u (.cells [.pointer (some ⟨bn, 0, none⟩), .pointer (some ⟨bo, 0, none⟩), vo, vl, .bool x.over].toArray 68), row 39 3 vo (os.map opV), row 129 4 vl (cs.map cmV), P])
    (post := fun _ => [rfP P bn r, pts bo (.cells [vs1, vr1, .int .u64 x.own.turns].toArray 47), row 114 2 vr1 (q1.map rrV), pts u (.cells [.pointer (some ⟨bn, 0, none⟩), .pointer (some ⟨bo, 0, none⟩), vo, vl, .bool x.over].toArray 68), row 39 3 vo (os.map opV), row 129 4 vl (cs.map cmV), P]) (φ := fun _ => True) (ret := fun _ => .int .i64 (x.checkT r)) ?_ (fun _ => entD) (fun y hy' => ⟨y, hy', rfl, fun R h s => rf_in hy1 (Take.out takeD s)⟩)
  refine fspec_ex ?_
  rintro ⟨⟨vs2, ts2, vr2, q2⟩, hy2⟩
  unfold rfL
  dsimp only
  have hol : os.length = x.redo.length := by have := congrArg List.length hy.redo; simpa using this
  exact (fspec_frame' (rtCheckO u bn bo x r P vo vl vs1 vr1 vs2 vr2 ts1 q1 os hx hwf hok hol hy1 hinv) [row 114 2 vr2 (q2.map rrV), row 129 4 vl (cs.map cmV)]).conseq (fun _ => entD) (fun _ _ => ⟨(), trivial, rfl, fun R h s => by
    have s2 := rf_in hy2 (Take.out takeD s)
    refine (?_ : ∀ h, SatL _ h → SatL _ h) h s2
    exact entD⟩)
theorem rtCheck_spec (u bn : Nat) (x : Tx) (r : Rl) (P : HProp) (hx : x.Ok) (hwf : Rl.Wf x.own) (hok : r.Ok) (hinv : x.own.turns = IntKind.u64.wrap (x.t0 + x.redo.length)) :
    FSpec Tryz.prog 71 [.pointer (some ⟨u, 0, none⟩)] [rtP P u bn x, rfP P bn r, P] Unit (fun _ => True) (fun _ => .int .i64 (x.checkT r)) (fun _ => [rtP P u bn x, rfP P bn r, P]) := by
  refine fspec_ex ?_
  rintro ⟨⟨bo, vo, os, vl, cs⟩, hy⟩
  unfold rtL
  dsimp only
  exact (rtCheckL u bn bo x r P vo vl os cs hx hwf hok hinv hy).conseq (fun _ _ s => s) (fun _ _ => ⟨(), trivial, rfl, fun R h s => rt_in (P := P) rfl rfl hy (Take.out takeD s)⟩)
set_option maxHeartbeats 2000000 in
theorem rtCommit_no (u bn : Nat) (x : Tx) (r : Rl) (P : HProp) (hx : x.Ok) (hwf : Rl.Wf x.own) (hok : r.Ok) (hinv : x.own.turns = IntKind.u64.wrap (x.t0 + x.redo.length)) (h0 : x.checkT r ≠ 0) :
    FSpec Tryz.prog 72 [.pointer (some ⟨u, 0, none⟩)] [rtP P u bn x, rfP P bn r, P] Unit (fun _ => True) (fun _ => .tuple #[.slice none 0 0, .int .i64 (x.checkT r)]) (fun _ => [rtP P u bn x.abortT, rfP P bn r, P]) := by
  refine fspec_ex ?_
  rintro ⟨⟨bo, vo, os, vl, cs⟩, hy⟩
  unfold rtL
  dsimp only
  have hc := rtCheckL u bn bo x r P vo vl os cs hx hwf hok hinv hy
  have hya : RtOK P x.abortT ⟨bo, vo, os, vl, cs⟩ := ⟨hy.vo, hy.vl, hy.os, hy.redo, hy.cs, hy.l⟩
  have f1 : (!decide (x.checkT r = (0 : Int))) = true := by simp [h0]
  refine spec_intro [] _ Tryz.func72 rfl Tryz.ntmps72 (by rfl) (fun w0 R => ?_)
  repeat' (first | (refine go_Y ?_; intros) | (refine gs_Y ?_ ?_ <;> (intro hgd; try (simp only [Bool.not_true, Bool.not_false] at hgd))) | (refine gc_Y ?_ ?_ <;> intro _) | fail)
  refine cl_Y (hc) ?_
  intro _ _
  repeat' (first | (refine go_Y ?_; intros) | (refine gs_Y ?_ ?_ <;> (intro hgd; try (simp only [Bool.not_true, Bool.not_false] at hgd))) | (refine gc_Y ?_ ?_ <;> intro _) | fail)
  refine cont_map (fun _ h => rt_in (P := P) (x := x.abortT) (ov := true) rfl rfl hya (Take.out takeD h)) ?_
  (refine rt_Y (y := ()) (hrs := Tryz.results72) (hv := ?_) (hφ := ?_))
  · rfl
  · trivial
theorem play_wf : ∀ (l : List Opr) {r : Rl}, Rl.Wf r → (∀ o ∈ l, ∀ v ∈ o.row, v.wf) → Rl.Wf (r.play l)
  | [], _, h, _ => h
  | o :: l, r, h, hw => by
    refine play_wf l (r := (r.doOp o).1) ?_ (fun o ho => hw o (List.mem_cons_of_mem _ ho))
    have hwo := hw o (List.mem_cons_self ..)
    rcases doOp_did r o with ⟨_, e, _⟩ | ⟨_, p, d⟩
    · rw [e]; exact h
    · intro x hx
      rcases d.kind with ⟨_, _, e, _⟩ | ⟨_, _, e, _⟩ | ⟨_, _, e, _⟩
      · rw [e] at hx
        rcases aput_mem _ _ _ x hx with rfl | hx
        · exact hwo
        · exact h x hx
      · rw [e] at hx
        rcases aput_mem _ _ _ x hx with rfl | hx
        · exact hwo
        · exact h x hx
      · rw [e] at hx
        exact h x (adel_sub _ _ x hx)
set_option maxHeartbeats 4000000 in
theorem rtCommit_yes (u bn : Nat) (x : Tx) (r : Rl) (P : HProp) (hx : x.Ok) (hwf : Rl.Wf x.own) (hok : r.Ok) (hwfr : Rl.Wf r) (hU : UT P) (hinv : x.own.turns = IntKind.u64.wrap (x.t0 + x.redo.length)) (h0 : x.checkT r = 0) :
    FSpec Tryz.prog 72 [.pointer (some ⟨u, 0, none⟩)] [rtP P u bn x, rfP P bn r, P] (HProp × RtY) (fun y => Ext P y.1 ∧ RtOK y.1 x.abortT y.2) (fun y => .tuple #[y.2.vl, .int .i64 0])
      (fun y => [pts u (.cells [.pointer (some ⟨bn, 0, none⟩), .pointer (some ⟨y.2.bo, 0, none⟩), y.2.vo, y.2.vl, .bool true].toArray 68), row 39 3 y.2.vo (y.2.os.map opV), row 129 4 y.2.vl (y.2.cs.map cmV), rfP y.1 y.2.bo x.own, rfP y.1 bn (r.play x.redo), y.1]) := by
  refine fspec_ex ?_
  rintro ⟨⟨bo, vo, os, vl, cs⟩, hy⟩
  unfold rtL
  dsimp only
  have hya : RtOK P x.abortT ⟨bo, vo, os, vl, cs⟩ := ⟨hy.vo, hy.vl, hy.os, hy.redo, hy.cs, hy.l⟩
  have hos := hy.os
  have hvl := hy.vl
  have hredo := hy.redo
  dsimp only at hos hredo hvl
  have los : (os.map opV).length = os.length := by simp
  have hol : os.length = x.redo.length := by rw [← hredo]; simp
  have h60 := hx.len
  have hrl := hx.rlen
  have f1 : (!decide ((0 : Int) = (0 : Int))) = false := by decide
  refine fspec_learn (fun R => rowShapeS (e := 39) (n := 3) (v := vo) (xs := os.map opV) (by decide) takeD) ?_
  rintro ⟨po, co, rfl, hco, hso⟩
  have hc := rtCheckL u bn bo x r P (.slice po (os.map opV).length co) vl os cs hx hwf hok hinv hy
  rw [h0] at hc
  refine spec_intro [] _ Tryz.func72 rfl Tryz.ntmps72 (by rfl) (fun w0 R => ?_)
  repeat' (first | (refine go_Y ?_; intros) | (refine gs_Y ?_ ?_ <;> (intro hgd; try (simp only [Bool.not_true, Bool.not_false] at hgd))) | (refine gc_Y ?_ ?_ <;> intro _) | fail)
  refine cl_Y (hc) ?_
  intro _ _
  repeat' (first | (refine go_Y ?_; intros) | (refine gs_Y ?_ ?_ <;> (intro hgd; try (simp only [Bool.not_true, Bool.not_false] at hgd))) | (refine gc_Y ?_ ?_ <;> intro _) | fail)
  refine ok_map (L' := [rfP P bn r, P, pts u (.cells [.pointer (some ⟨bn, 0, none⟩), .pointer (some ⟨bo, 0, none⟩), .slice po (os.map opV).length co, vl, .bool true].toArray 68), row 39 3 (.slice po (os.map opV).length co) (os.map opV), row 129 4 vl (cs.map cmV), rfP P bo x.own] ++ R) entD ?_
  refine ok_loop' (γ := Nat × HProp) (fun y ρ L => y.1 ≤ os.length ∧ Ext P y.2 ∧ Knows ρ [(0, .pointer (some ⟨u, 0, none⟩)), (5, .int .i64 y.1)] ∧
      L = [rfP y.2 bn (r.play (x.redo.take y.1)), y.2, pts u (.cells [.pointer (some ⟨bn, 0, none⟩), .pointer (some ⟨bo, 0, none⟩), .slice po (os.map opV).length co, vl, .bool true].toArray 68), row 39 3 (.slice po (os.map opV).length co) (os.map opV), row 129 4 vl (cs.map cmV), rfP P bo x.own] ++ R) (fun y => os.length - y.1)
    (0, P) ⟨by omega, Ext.refl P, ⟨rfl, rfl, trivial⟩, rfl⟩ ?_
  rintro ⟨k, Q⟩ ρ L ⟨hk1, hext, hk, rfl⟩
  dsimp only at hk1 hext hk ⊢
  refine ok_regs hk ?_
  cases t1 : decide ((k : Int) < ((os.map opV).length : Int)) with
  | true =>
    have hkl : k < os.length := by have := of_decide_eq_true t1; omega
    have hn1 : k < (os.map opV).length := by omega
    have hxx : (os.map opV)[k]? = some (opV os[k]) := by rw [List.getElem?_map, List.getElem?_eq_getElem hkl]; rfl
    have hm := List.getElem_mem hkl
    have hvw := hext.vw (hos _ hm)
    have hrow := hx.rows os[k].c (by rw [← hredo]; exact List.mem_map_of_mem hm)
    have htk : x.redo.take (k + 1) = x.redo.take k ++ [os[k].c] := by
      rw [← hredo, List.take_succ_eq_append_getElem (by rw [List.length_map]; exact hkl)]
      simp
    have hps := Rl.play_snoc r (x.redo.take k) os[k].c
    rw [← htk] at hps
    have hpo : (r.play (x.redo.take k)).Ok := hok.play _
    have hpw : Rl.Wf (r.play (x.redo.take k)) := play_wf _ hwfr fun o ho => (hx.rows o (List.mem_of_mem_take ho)).2
    refine ok_learn (VwIn.base (n := 3) (xs := os.map opV) (VwIn.there (VwIn.there (VwIn.there (VwIn.here Vw.row)))) (by intro e; rw [e] at hn1; simp at hn1)) ?_
    rintro ⟨bq, oq, rfl⟩
    generalize os[k] = q at hxx hvw hrow hps
    obtain ⟨qk, qt, ⟨qv, hqv⟩, ql⟩ := q
    dsimp only [opV, Om.c] at hxx hvw hrow hps
    have hdo := do14_spec bn (r.play (x.redo.take k)) ⟨qk, qt, ql⟩ qv Q hpo hpw (hU.ext hext) hvw hqv hrow.2
    rw [← hps] at hdo
    repeat' (first | (refine go_Y ?_; intros) | (refine gs_Y ?_ ?_ <;> (intro hgd; try (simp only [Bool.not_true, Bool.not_false] at hgd))) | (refine gc_Y ?_ ?_ <;> intro _) | fail)
    refine cl_Y (hdo) ?_
    rintro ⟨⟨v1, hv1⟩, ⟨v2, hv2⟩, Q'⟩ ⟨hE, _⟩
    dsimp only at hE ⊢
    repeat' (first | (refine go_Y ?_; intros) | (refine gs_Y ?_ ?_ <;> (intro hgd; try (simp only [Bool.not_true, Bool.not_false] at hgd))) | (refine gc_Y ?_ ?_ <;> intro _) | fail)
    refine cont_map (L' := [rfP Q' bn (r.play (x.redo.take (k + 1))), Q', pts u (.cells [.pointer (some ⟨bn, 0, none⟩), .pointer (some ⟨bo, 0, none⟩), .slice (some ⟨bq, oq, none⟩) (os.map opV).length co, vl, .bool true].toArray 68), row 39 3 (.slice (some ⟨bq, oq, none⟩) (os.map opV).length co) (os.map opV), row 129 4 vl (cs.map cmV), rfP P bo x.own] ++ R) entD ?_
    refine cont_back (k + 1, Q') ⟨by dsimp only; omega, hext.trans hE, ⟨rfl, rfl, trivial⟩, rfl⟩ (by show os.length - (k + 1) < os.length - k; omega)
  | false =>
    have hkr : k = os.length := by have := of_decide_eq_false t1; omega
    have htk : x.redo.take k = x.redo := by rw [List.take_of_length_le (by omega)]
    rw [htk]
    repeat' (first | (refine go_Y ?_; intros) | (refine gs_Y ?_ ?_ <;> (intro hgd; try (simp only [Bool.not_true, Bool.not_false] at hgd))) | (refine gc_Y ?_ ?_ <;> intro _) | fail)
    refine cont_map (fun _ h => rfP_ext hext (b := bo) (r := x.own) (Take.out1 (A := rfP P bo x.own) takeD h)) ?_
    (refine rt_Y (y := (Q, ⟨bo, .slice po (os.map opV).length co, os, vl, cs⟩)) (hrs := Tryz.results72) (hv := ?_) (hφ := ?_))
    · rfl
    · exact ⟨hext, hya.ext hext⟩
end Go.Proofs.YtbagfdolcabniaaGreatDoor
/- Layer 15's law TxnPlays: changes that are the same, more than is played, all rows, one act. -/
-- @DEFS Y
set_option linter.unusedSimpArgs false
set_option linter.unusedVariables false
set_option maxRecDepth 100000
namespace Go.Proofs.YtbagfdolcabniaaGreatDoor
open Go Go.Fx Go.Proofs Go.Pl

set_option maxHeartbeats 2000000 in
theorem same15T_spec (a c : List Cm) (u w : Value) (A B Q : HProp) (hA : Vw A 4 u (a.map cmV)) (hB : Vw B 4 w (c.map cmV)) (ha : ∀ x ∈ a, CmR Q x) (hc : ∀ x ∈ c, CmR Q x) (hz : a.length ≤ 1000000) (hr : ∀ x ∈ a, x.bef.length ≤ 1000000 ∧ x.aft.length ≤ 1000000) (he : c.map Cm.c = a.map Cm.c) :
    FSpec Tryz.prog 28 [u, w] [A, B, Q] Unit (fun _ => True) (fun _ => .bool true) (fun _ => [A, B, Q]) := by
  have la : (a.map cmV).length = a.length := by simp
  have lc : (c.map cmV).length = c.length := by simp
  have hlen : c.length = a.length := by have := congrArg List.length he; simpa using this
  have t0 : (!decide (((a.map cmV).length : Int) = ((c.map cmV).length : Int))) = false := by rw [la, lc, hlen]; simp
  refine spec_intro [] _ Tryz.func28 rfl Tryz.ntmps28 (by rfl) (fun w0 R => ?_)
  refine ok_learn (VwIn.slice (VwIn.here hA)) ?_
  rintro ⟨pu, cu, rfl⟩
  refine ok_learn (VwIn.slice (VwIn.there (VwIn.here hB))) ?_
  rintro ⟨pw, cw, rfl⟩
  repeat' (first | (refine go_Y ?_; intros) | (refine gs_Y ?_ ?_ <;> (intro hgd; try (simp only [Bool.not_true, Bool.not_false] at hgd))) | (refine gc_Y ?_ ?_ <;> intro _) | fail)
  refine ok_loop' (γ := Nat) (fun i ρ L => i ≤ a.length ∧ Knows ρ [(0, .slice pu (a.map cmV).length cu), (1, .slice pw (c.map cmV).length cw), (5, .int .i64 i)] ∧ L = [A, B, Q] ++ R) (fun i => a.length - i) 0 ⟨by omega, ⟨rfl, rfl, rfl, trivial⟩, rfl⟩ ?_
  rintro i ρ L ⟨hi, hk, rfl⟩
  refine ok_regs hk ?_
  cases t1 : decide ((i : Int) < ((a.map cmV).length : Int)) with
  | false =>
    repeat' (first | (refine go_Y ?_; intros) | (refine gs_Y ?_ ?_ <;> (intro hgd; try (simp only [Bool.not_true, Bool.not_false] at hgd))) | (refine gc_Y ?_ ?_ <;> intro _) | fail)
    (refine rt_Y (y := ()) (hrs := Tryz.results28) (hv := ?_) (hφ := ?_))
    · rfl
    · trivial
  | true =>
    have h : i < a.length := by have := of_decide_eq_true t1; omega
    have hc' : i < c.length := by omega
    have hx : (a.map cmV)[i]? = some (cmV a[i]) := by rw [List.getElem?_map, List.getElem?_eq_getElem h]; rfl
    have hy : (c.map cmV)[i]? = some (cmV c[i]) := by rw [List.getElem?_map, List.getElem?_eq_getElem hc']; rfl
    have hn1 : i < (a.map cmV).length := by omega
    have hn2 : i < (c.map cmV).length := by omega
    have hxc : c[i].c = a[i].c := by
      have e2 := congrArg (fun l => l[i]?) he
      simp only [List.getElem?_map, List.getElem?_eq_getElem h, List.getElem?_eq_getElem hc', Option.map_some, Option.some.injEq] at e2
      exact e2
    have hax := ha _ (List.getElem_mem h)
    have hcx := hc _ (List.getElem_mem hc')
    obtain ⟨hz1, hz2⟩ := hr _ (List.getElem_mem h)
    refine ok_learn (VwIn.base (n := 4) (xs := a.map cmV) (VwIn.here hA) (by intro e; rw [e] at hn1; simp at hn1)) ?_
    rintro ⟨bu, ou, rfl⟩
    refine ok_learn (VwIn.base (n := 4) (xs := c.map cmV) (VwIn.there (VwIn.here hB)) (by intro e; rw [e] at hn2; simp at hn2)) ?_
    rintro ⟨bw, ow, rfl⟩
    generalize a[i] = x at hx hxc hax hz1 hz2
    generalize c[i] = y at hy hxc hcx
    obtain ⟨xk, xt, ⟨xb, hxb⟩, xbl, ⟨xa, hxa⟩, xal⟩ := x
    obtain ⟨⟨yb, hyb⟩, ⟨ya, hya⟩, rfl⟩ : ∃ yb ya, y = Cm.mk xk xt yb xbl ya xal := by
      obtain ⟨p, q, r, s, t, v⟩ := y
      simp only [Cm.c, Chg.mk.injEq] at hxc
      obtain ⟨rfl, rfl, rfl, rfl⟩ := hxc
      exact ⟨r, t, rfl⟩
    have s1 := same04Q_spec xbl xbl xb yb Q hax.bv hcx.bv hz1
    have s2 := same04Q_spec xal xal xa ya Q hax.av hcx.av hz2
    rw [show decide (xbl = xbl) = true from by simp] at s1
    rw [show decide (xal = xal) = true from by simp] at s2
    dsimp only [cmV] at hx hy
    have v1 : (!decide (xk = xk)) = false := by simp
    have v2 : (!decide (xt = xt)) = false := by simp
    repeat' (first | (refine go_Y ?_; intros) | (refine gs_Y ?_ ?_ <;> (intro hgd; try (simp only [Bool.not_true, Bool.not_false] at hgd))) | (refine gc_Y ?_ ?_ <;> intro _) | fail)
    refine cl_Y (s1) ?_
    intro _ _
    repeat' (first | (refine go_Y ?_; intros) | (refine gs_Y ?_ ?_ <;> (intro hgd; try (simp only [Bool.not_true, Bool.not_false] at hgd))) | (refine gc_Y ?_ ?_ <;> intro _) | fail)
    refine cl_Y (s2) ?_
    intro _ _
    repeat' (first | (refine go_Y ?_; intros) | (refine gs_Y ?_ ?_ <;> (intro hgd; try (simp only [Bool.not_true, Bool.not_false] at hgd))) | (refine gc_Y ?_ ?_ <;> intro _) | fail)
    refine cont_map (L' := [A, B, Q] ++ R) entD ?_
    refine cont_back (i + 1) ⟨h, ⟨rfl, rfl, rfl, trivial⟩, rfl⟩ (by omega)

/-! ### More than is played -/
/-- An act, in memory. -/
structure Am where
  o : Om
  e : Int
def amV (x : Am) : List Value := [.int .u8 x.o.kind, .int .i64 x.o.table, x.o.rv.1, .int .u8 x.e]
structure AsR (A : HProp) (va : Value) (az : List Am) : Prop where
  vw : Vw A 4 va (az.map amV)
  op : ∀ a ∈ az, OmR A a.o
  len : az.length ≤ 140737488355328
theorem OmR.ext {P P' : HProp} (e : Ext P P') {o : Om} (h : OmR P o) : OmR P' o := ⟨e.vw h.vw, h.len, h.txt⟩
def opsUp (az : List Am) (n : Nat) : List Om := (az.take n).map Am.o
set_option maxHeartbeats 4000000 in
theorem heavy15_spec (vs va : Value) (ts : List Tb) (az : List Am) (A : HProp) (h : SVr A vs ts) (ha : AsR A va az) :
    FSpec Tryz.prog 22 [.agg #[vs], va] [A] (Bool × HProp) (fun y => Ext A y.2 ∧ (y.1 = false → smallS ts ∧ smallO (az.map Am.o) ∧ az.length ≤ 200)) (fun y => .bool y.1) (fun y => [y.2]) := by
  have hva := ha.vw
  have hza := ha.len
  have la : (az.map amV).length = az.length := by simp
  refine spec_intro [] _ Tryz.func22 rfl Tryz.ntmps22 (by rfl) (fun w0 R => ?_)
  refine ok_learn (VwIn.slice (VwIn.here hva)) ?_
  rintro ⟨pa, ca, rfl⟩
  refine ok_learn (VwIn.slice (VwIn.here h.vw)) ?_
  rintro ⟨ps, cs, rfl⟩
  repeat' (first | (refine go_Y ?_; intros) | (refine gs_Y ?_ ?_ <;> (intro hgd; try (simp only [Bool.not_true, Bool.not_false] at hgd))) | (refine gc_Y ?_ ?_ <;> intro _) | fail)
  rename_i b2
  refine ok_map (fun _ h => nilRow (e := 39) (n := 3) h) ?_
  refine ok_map (L' := [A, row 39 3 (.slice none 0 0) ((opsUp az 0).map opV), pts b2 (.cells [.slice ps (ts.map tbV).length cs].toArray 24)] ++ R) entD ?_
  refine ok_loop' (γ := Nat × V1s) (fun g ρ L => g.1 ≤ az.length ∧ g.1 ≤ 400 ∧ Knows ρ [(1, .slice pa (az.map amV).length ca), (2, .pointer (some ⟨b2, 0, none⟩)), (5, g.2.1), (6, .int .i64 g.1)] ∧ L = [A, row 39 3 g.2.1 ((opsUp az g.1).map opV), pts b2 (.cells [.slice ps (ts.map tbV).length cs].toArray 24)] ++ R) (fun g => az.length - g.1)
    (0, ⟨.slice none 0 0, rfl⟩) ⟨by simp, by simp, ⟨rfl, rfl, rfl, rfl, trivial⟩, rfl⟩ ?_
  rintro ⟨i, ⟨v, hv⟩⟩ ρ L ⟨hi, hi4, hk, rfl⟩
  dsimp only at hi hi4 hk ⊢
  refine ok_regs hk ?_
  have hul : (opsUp az i).length = i := by unfold opsUp; rw [List.length_map, List.length_take]; omega
  have hum : ((opsUp az i).map opV).length = i := by rw [List.length_map, hul]
  refine ok_learn (rowShapeS (e := 39) (n := 3) (v := v) (xs := (opsUp az i).map opV) (by decide) takeD) ?_
  rintro ⟨pv, cv, rfl, hcv, hsv⟩
  cases t1 : decide ((i : Int) < ((az.map amV).length : Int)) with
  | true =>
    have h0 : i < az.length := by have := of_decide_eq_true t1; omega
    cases t2 : decide ((i : Int) < 400) with
    | true =>
      have h4 : i < 400 := by have := of_decide_eq_true t2; omega
      have hx : (az.map amV)[i]? = some (amV az[i]) := by rw [List.getElem?_map, List.getElem?_eq_getElem h0]; rfl
      have hn1 : i < (az.map amV).length := by omega
      have hst : opsUp az (i + 1) = opsUp az i ++ [az[i].o] := by unfold opsUp; rw [List.take_succ_eq_append_getElem h0, List.map_append]; rfl
      refine ok_learn (VwIn.base (n := 4) (xs := az.map amV) (VwIn.here hva) (by intro e; rw [e] at hn1; simp at hn1)) ?_
      rintro ⟨bu, ou, rfl⟩
      have hom := (ha.op _ (List.getElem_mem h0)).vw
      generalize az[i] = x at hx hst hom
      obtain ⟨⟨ok, ot, ⟨ov, hov⟩, ol⟩, xe⟩ := x
      dsimp only [amV] at hx hst hom
      refine ok_learn (VwIn.slice (VwIn.here hom)) ?_
      rintro ⟨px, cx, rfl⟩
      generalize opsUp az i = acc at hst hul hum hcv hsv ⊢
      repeat' (first | (refine go_Y ?_; intros) | (refine gs_Y ?_ ?_ <;> (intro hgd; try (simp only [Bool.not_true, Bool.not_false] at hgd))) | (refine gc_Y ?_ ?_ <;> intro _) | fail)
      rename_i v1 hv1 v2 hv2
      refine cont_map (L' := [A, row 39 3 v2 ((opsUp az (i + 1)).map opV), pts b2 (.cells [.slice ps (ts.map tbV).length cs].toArray 24)] ++ R) (by rw [hst, List.map_append]; exact entD) ?_
      refine cont_back (i + 1, ⟨v2, hv2⟩) ⟨h0, h4, ⟨rfl, rfl, rfl, rfl, trivial⟩, rfl⟩ (by show az.length - (i + 1) < az.length - i; omega)
    | false =>
      have h4 : i = 400 := by have := of_decide_eq_false t2; omega
      refine ok_pool1 (ty := 39) (n := 3) (v := .slice pv ((opsUp az i).map opV).length cv) (xs := (opsUp az i).map opV) (P := A) takeD ?_
      intro Q hE hw
      have hvy := heavy14_spec (.slice ps (ts.map tbV).length cs) (.slice pv ((opsUp az i).map opV).length cv) ts (opsUp az i) Q (h.ext hE) ⟨hw, fun o ho => by
        unfold opsUp at ho
        obtain ⟨a, ha', rfl⟩ := List.mem_map.1 ho
        exact (ha.op a (List.mem_of_mem_take ha')).ext hE, by omega⟩
      repeat' (first | (refine go_Y ?_; intros) | (refine gs_Y ?_ ?_ <;> (intro hgd; try (simp only [Bool.not_true, Bool.not_false] at hgd))) | (refine gc_Y ?_ ?_ <;> intro _) | fail)
      refine cl_Y (hvy) ?_
      intro y hy
      cases y with
      | true =>
        repeat' (first | (refine go_Y ?_; intros) | (refine gs_Y ?_ ?_ <;> (intro hgd; try (simp only [Bool.not_true, Bool.not_false] at hgd))) | (refine gc_Y ?_ ?_ <;> intro _) | fail)
        (refine rt_Y (y := (true, Q)) (hrs := Tryz.results22) (hv := ?_) (hφ := ?_))
        · rfl
        · exact ⟨hE, fun e => by cases e⟩
      | false =>
      exfalso
      have := (hy rfl).2.1
      rw [hul] at this; omega
  | false =>
    have hie : i = az.length := by have := of_decide_eq_false t1; omega
    have hall : opsUp az i = az.map Am.o := by unfold opsUp; rw [hie, List.take_length]
    refine ok_pool1 (ty := 39) (n := 3) (v := .slice pv ((opsUp az i).map opV).length cv) (xs := (opsUp az i).map opV) (P := A) takeD ?_
    intro Q hE hw
    have hvy := heavy14_spec (.slice ps (ts.map tbV).length cs) (.slice pv ((opsUp az i).map opV).length cv) ts (opsUp az i) Q (h.ext hE) ⟨hw, fun o ho => by
      unfold opsUp at ho
      obtain ⟨a, ha', rfl⟩ := List.mem_map.1 ho
      exact (ha.op a (List.mem_of_mem_take ha')).ext hE, by omega⟩
    repeat' (first | (refine go_Y ?_; intros) | (refine gs_Y ?_ ?_ <;> (intro hgd; try (simp only [Bool.not_true, Bool.not_false] at hgd))) | (refine gc_Y ?_ ?_ <;> intro _) | fail)
    refine cl_Y (hvy) ?_
    intro y hy
    rw [hall] at hy
    cases y with
    | true =>
      repeat' (first | (refine go_Y ?_; intros) | (refine gs_Y ?_ ?_ <;> (intro hgd; try (simp only [Bool.not_true, Bool.not_false] at hgd))) | (refine gc_Y ?_ ?_ <;> intro _) | fail)
      (refine rt_Y (y := (true, Q)) (hrs := Tryz.results22) (hv := ?_) (hφ := ?_))
      · rfl
      · exact ⟨hE, fun e => by cases e⟩
    | false =>
      cases t3 : decide ((200 : Int) < ((az.map amV).length : Int)) with
      | true =>
        repeat' (first | (refine go_Y ?_; intros) | (refine gs_Y ?_ ?_ <;> (intro hgd; try (simp only [Bool.not_true, Bool.not_false] at hgd))) | (refine gc_Y ?_ ?_ <;> intro _) | fail)
        (refine rt_Y (y := (true, Q)) (hrs := Tryz.results22) (hv := ?_) (hφ := ?_))
        · rw [t3]; rfl
        · exact ⟨hE, fun e => by cases e⟩
      | false =>
        repeat' (first | (refine go_Y ?_; intros) | (refine gs_Y ?_ ?_ <;> (intro hgd; try (simp only [Bool.not_true, Bool.not_false] at hgd))) | (refine gc_Y ?_ ?_ <;> intro _) | fail)
        (refine rt_Y (y := (false, Q)) (hrs := Tryz.results22) (hv := ?_) (hφ := ?_))
        · rw [t3]; rfl
        · exact ⟨hE, fun _ => ⟨(hy rfl).1, (hy rfl).2, by have := of_decide_eq_false t3; omega⟩⟩

set_option maxHeartbeats 4000000 in
theorem rows15o_spec (b bx : Nat) (r : Rl) (P : HProp) (vs vr : Value) (ts : List Tb) (q : List Rr) (hok : r.Ok) (hwf : Rl.Wf r) (hy : RfOK P r ⟨vs, ts, vr, q⟩) :
    FSpec Tryz.prog 30 [.pointer (some ⟨b, 0, none⟩), .pointer (some ⟨bx, 0, none⟩)] [relP P b r, pts bx (.cells [vs, vr, .int .u64 r.turns].toArray 47), row 114 2 vr (q.map rrV), P] HProp (fun P' => Ext P P') (fun _ => .bool true)
      (fun P' => [relP P' b r, pts bx (.cells [vs, vr, .int .u64 r.turns].toArray 47), row 114 2 vr (q.map rrV), P']) := by
  have hvw := hy.sv.vw
  dsimp only at hvw
  have htl := hy.sv.len
  dsimp only at htl
  have ltm : (ts.map tbV).length = ts.length := by simp
  have e2 : decide (r.turns = r.turns) = true := by simp
  refine spec_intro [] _ Tryz.func30 rfl Tryz.ntmps30 (by rfl) (fun w0 R => ?_)
  refine ok_learn (VwIn.slice (VwIn.there (VwIn.there (VwIn.there (VwIn.here hvw))))) ?_
  rintro ⟨pv, cv, rfl⟩
  repeat' (first | (refine go_Y ?_; intros) | (refine gs_Y ?_ ?_ <;> (intro hgd; try (simp only [Bool.not_true, Bool.not_false] at hgd))) | (refine gc_Y ?_ ?_ <;> intro _) | fail)
  refine ok_loop' (γ := Nat × { Q : HProp // Ext P Q }) (fun g ρ L => g.1 ≤ ts.length ∧ Knows ρ [(0, .pointer (some ⟨b, 0, none⟩)), (1, .pointer (some ⟨bx, 0, none⟩)), (5, .int .i64 g.1)] ∧
      L = [relP g.2.1 b r, pts bx (.cells [.slice pv (ts.map tbV).length cv, vr, .int .u64 r.turns].toArray 47), row 114 2 vr (q.map rrV), g.2.1] ++ R) (fun g => ts.length - g.1)
    (0, ⟨P, Ext.refl P⟩) ⟨by simp, ⟨rfl, rfl, rfl, trivial⟩, rfl⟩ ?_
  rintro ⟨n, Q, hE⟩ ρ L ⟨hn, hk, rfl⟩
  dsimp only at hE hn hk ⊢
  refine ok_regs hk ?_
  cases t1 : decide ((n : Int) < ((ts.map tbV).length : Int)) with
  | false =>
    repeat' (first | (refine go_Y ?_; intros) | (refine gs_Y ?_ ?_ <;> (intro hgd; try (simp only [Bool.not_true, Bool.not_false] at hgd))) | (refine gc_Y ?_ ?_ <;> intro _) | fail)
    (apply ok_draw [1]; (focus (kernel_rfl)); (focus ((conv => lhs; whnf); first | done | rfl)); (focus (decide +kernel)); (focus (exact (fun _ h => h))))
    repeat' (first | (refine go_Y ?_; intros) | (refine gs_Y ?_ ?_ <;> (intro hgd; try (simp only [Bool.not_true, Bool.not_false] at hgd))) | (refine gc_Y ?_ ?_ <;> intro _) | fail)
    refine clN_Y (relTurns_spec b r Q) ?_
    intro _ _
    repeat' (first | (refine go_Y ?_; intros) | (refine gs_Y ?_ ?_ <;> (intro hgd; try (simp only [Bool.not_true, Bool.not_false] at hgd))) | (refine gc_Y ?_ ?_ <;> intro _) | fail)
    (refine rt_Y (y := Q) (hrs := Tryz.results30) (hv := ?_) (hφ := ?_))
    · rfl
    · exact hE
  | true =>
    have h0 : n < ts.length := by have := of_decide_eq_true t1; omega
    have hr1 := relRows_spec b r (n : Int) Q hok hwf
    repeat' (first | (refine go_Y ?_; intros) | (refine gs_Y ?_ ?_ <;> (intro hgd; try (simp only [Bool.not_true, Bool.not_false] at hgd))) | (refine gc_Y ?_ ?_ <;> intro _) | fail)
    refine cl_Y (hr1) ?_
    rintro ⟨⟨v1, hv1⟩, l1, Q1⟩ ⟨hE1, hl1, ho1⟩
    dsimp only at hE1 hl1 ho1 ⊢
    repeat' (first | (refine go_Y ?_; intros) | (refine gs_Y ?_ ?_ <;> (intro hgd; try (simp only [Bool.not_true, Bool.not_false] at hgd))) | (refine gc_Y ?_ ?_ <;> intro _) | fail)
    have hr2 := all14o_spec bx r (n : Int) Q1 (.slice pv (ts.map tbV).length cv) vr ts q hok (hy.ext (hE.trans hE1))
    refine cl_Y (hr2) ?_
    rintro ⟨⟨v2, hv2⟩, l2⟩ ⟨hl2, ho2⟩
    dsimp only at hl2 ho2 ⊢
    repeat' (first | (refine go_Y ?_; intros) | (refine gs_Y ?_ ?_ <;> (intro hgd; try (simp only [Bool.not_true, Bool.not_false] at hgd))) | (refine gc_Y ?_ ?_ <;> intro _) | fail)
    have heq : decide (l1.map (·.2) = l2.map (·.2)) = true := decide_eq_true (ho1.uniq ho2 rfl (.refl _))
    obtain ⟨s1, s2⟩ := ho1.small hok
    have hsm := same14_spec l1 l2 v1 v2 (row 35 1 v1 (l1.map rwV)) (row 35 1 v2 (l2.map rwV)) Q1 Vw.row Vw.row hl1 hl2 (by omega) (fun x hx => by have := s2 x hx; omega)
    rw [heq] at hsm
    refine cl_Y (hsm) ?_
    intro _ _
    repeat' (first | (refine go_Y ?_; intros) | (refine gs_Y ?_ ?_ <;> (intro hgd; try (simp only [Bool.not_true, Bool.not_false] at hgd))) | (refine gc_Y ?_ ?_ <;> intro _) | fail)
    refine cont_map (L' := [relP Q1 b r, pts bx (.cells [.slice pv (ts.map tbV).length cv, vr, .int .u64 r.turns].toArray 47), row 114 2 vr (q.map rrV), Q1] ++ R) entD ?_
    refine cont_back (n + 1, ⟨Q1, hE.trans hE1⟩) ⟨h0, ⟨rfl, rfl, rfl, trivial⟩, rfl⟩ (by dsimp only; omega)
theorem rows15_spec (b bx : Nat) (r : Rl) (P : HProp) (hok : r.Ok) (hwf : Rl.Wf r) :
    FSpec Tryz.prog 30 [.pointer (some ⟨b, 0, none⟩), .pointer (some ⟨bx, 0, none⟩)] [relP P b r, rfP P bx r, P] HProp (fun P' => Ext P P') (fun _ => .bool true) (fun P' => [relP P' b r, rfP P' bx r, P']) := by
  refine FSpec.conseq (pre := [rfP P bx r, relP P b r, P]) (post := fun P' => [relP P' b r, rfP P' bx r, P']) (φ := fun P' => Ext P P') (ret := fun _ => .bool true) ?_ (fun R h s => s.swap) (fun y hy => ⟨y, hy, rfl, fun _ _ s => s⟩)
  refine fspec_ex ?_
  rintro ⟨⟨vs, ts, vr, q⟩, hy⟩
  unfold rfL
  dsimp only
  refine (rows15o_spec b bx r P vs vr ts q hok hwf hy).conseq (fun _ => entD) (fun P' hE => ⟨P', hE, rfl, fun R h s => ?_⟩)
  exact SatL.swap (rf_in (hy.ext hE) (Take.out takeD s))
end Go.Proofs.YtbagfdolcabniaaGreatDoor
/- Layer 15's law TxnPlays: one act. -/
-- @DEFS Y
set_option linter.unusedSimpArgs false
set_option linter.unusedVariables false
set_option maxRecDepth 100000
namespace Go.Proofs.YtbagfdolcabniaaGreatDoor
open Go Go.Fx Go.Proofs Go.Pl

structure Pt (x : Tx) (r : Rl) : Prop where
  xo : x.Ok
  wx : Rl.Wf x.own
  ro : r.Ok
  wr : Rl.Wf r
  inv : x.own.turns = IntKind.u64.wrap (x.t0 + x.redo.length)
def actT (x : Tx) (r : Rl) (e : Int) (o : Opr) : Tx × Rl :=
  if e = 1 then (x.abortT, if x.checkT r = 0 then r.play x.redo else r) else if e = 2 then (x.abortT, r) else if e = 3 then (x, (r.doOp o).1) else ((x.doT o).1, r)
theorem wrap_u64 (m : Int) : IntKind.u64.wrap m = m % 18446744073709551616 := rfl
theorem Pt.new {r : Rl} (h : r.Ok) (hw : Rl.Wf r) : Pt ⟨r, r.turns, [], [], false⟩ r := by
  have h0 := h.t0
  have h1 := h.t1
  exact ⟨⟨h, by simp, rfl, fun _ h => by simp at h, fun _ h => by simp at h, h0, h1⟩, hw, h, hw, by rw [wrap_u64]; simp only [List.length_nil]; omega⟩
theorem Pt.abort {x : Tx} {r : Rl} (p : Pt x r) : Pt x.abortT r := ⟨⟨p.xo.own, p.xo.len, p.xo.rlen, p.xo.rows, p.xo.chg, p.xo.t0, p.xo.t1⟩, p.wx, p.ro, p.wr, p.inv⟩
theorem Pt.doO {x : Tx} {r : Rl} (p : Pt x r) {o : Opr} (hw : ∀ v ∈ o.row, v.wf) : Pt x (r.doOp o).1 :=
  ⟨p.xo, p.wx, p.ro.doOp o, play_wf [o] p.wr (fun q hq => by rw [List.mem_singleton] at hq; subst hq; exact hw), p.inv⟩
theorem Pt.play {x : Tx} {r : Rl} (p : Pt x r) : Pt x (r.play x.redo) := ⟨p.xo, p.wx, p.ro.play _, play_wf _ p.wr fun o ho => (p.xo.rows o ho).2, p.inv⟩
theorem Pt.doT {x : Tx} {r : Rl} (p : Pt x r) {o : Opr} (hl : o.row.length ≤ 1000000) (hw : ∀ v ∈ o.row, v.wf) : Pt (x.doT o).1 r := by
  refine ⟨Tx.Ok.doT p.xo hl hw, ?_, p.ro, p.wr, ?_⟩
  · unfold Tx.doT
    split
    · exact p.wx
    · split
      · exact p.wx
      · split
        · exact p.wx
        · exact play_wf [o] p.wx (fun q hq => by rw [List.mem_singleton] at hq; subst hq; exact hw)
  · have hi := p.inv
    unfold Tx.doT
    split
    · exact hi
    · split
      · exact hi
      · split
        · exact hi
        · rename_i h0
          rcases doOp_did x.own o with ⟨h1, _⟩ | ⟨_, q, d⟩
          · exact absurd h1 h0
          · dsimp only
            rw [d.turns, hi, List.length_append, wrap_u64, wrap_u64, wrap_u64]
            simp only [List.length_cons, List.length_nil]
            omega
theorem Pt.act {x : Tx} {r : Rl} (p : Pt x r) {e : Int} {o : Opr} (hl : o.row.length ≤ 1000000) (hw : ∀ v ∈ o.row, v.wf) : Pt (actT x r e o).1 (actT x r e o).2 := by
  unfold actT
  split
  · split
    · exact p.play.abort
    · exact p.abort
  · split
    · exact p.abort
    · split
      · exact p.doO hw
      · exact p.doT hl hw
theorem over_abort {x : Tx} (h : x.over = true) : x.abortT = x := by
  obtain ⟨a, b, c, d, e⟩ := x
  dsimp only at h
  subst h; rfl
/-- What is there of an act: the program's transaction and state, the reference's. -/
def acP (tb b ub bx : Nat) (P : HProp) (x : Tx) (r : Rl) : List HProp := [txP P tb b x, relP P b r, rtP P ub bx x, rfP P bx r, P]
abbrev ActS (tb b ub bx : Nat) (x : Tx) (r : Rl) (o : Opr) (w : Value) (e : Int) (P : HProp) : Prop :=
  FSpec Tryz.prog 26 [.pointer (some ⟨tb, 0, none⟩), .pointer (some ⟨b, 0, none⟩), .pointer (some ⟨ub, 0, none⟩), .pointer (some ⟨bx, 0, none⟩), .agg #[.int .u8 o.kind, .int .i64 o.table, w, .int .u8 e]]
    [txP P tb b x, relP P b r, rtP P ub bx x, rfP P bx r, P] HProp (fun P' => Ext P P') (fun _ => .bool true) (fun P' => [txP P' tb b (actT x r e o).1, relP P' b (actT x r e o).2, rtP P' ub bx (actT x r e o).1, rfP P' bx (actT x r e o).2, P'])
section
variable (tb b ub bx : Nat) (x : Tx) (r : Rl) (o : Opr) (w : Value) (P : HProp)
set_option maxHeartbeats 4000000 in
theorem act2_spec : ActS tb b ub bx x r o w 2 P := by
  unfold ActS actT
  rw [if_neg (by decide), if_pos rfl]
  have h1 := txAbort_spec tb b x P
  have h2 := rtAbort_spec ub bx x P
  generalize (if x.over then (150 : Int) else 0) = c at h1 h2
  have f1 : decide ((2 : Int) = (1 : Int)) = false := by decide
  have f2 : decide ((2 : Int) = (2 : Int)) = true := by decide
  refine spec_intro [] _ Tryz.func26 rfl Tryz.ntmps26 (by rfl) (fun w0 R => ?_)
  repeat' (first | (refine go_Y ?_; intros) | (refine gs_Y ?_ ?_ <;> (intro hgd; try (simp only [Bool.not_true, Bool.not_false] at hgd))) | (refine gc_Y ?_ ?_ <;> intro _) | fail)
  refine cl_Y (h1) ?_
  intro _ _
  repeat' (first | (refine go_Y ?_; intros) | (refine gs_Y ?_ ?_ <;> (intro hgd; try (simp only [Bool.not_true, Bool.not_false] at hgd))) | (refine gc_Y ?_ ?_ <;> intro _) | fail)
  refine cl_Y (h2) ?_
  intro _ _
  repeat' (first | (refine go_Y ?_; intros) | (refine gs_Y ?_ ?_ <;> (intro hgd; try (simp only [Bool.not_true, Bool.not_false] at hgd))) | (refine gc_Y ?_ ?_ <;> intro _) | fail)
  (refine rt_Y (y := P) (hrs := Tryz.results26) (hv := ?_) (hφ := ?_))
  · rfl
  · exact Ext.refl P
set_option maxHeartbeats 4000000 in
theorem act3_spec (hp : Pt x r) (hU : UT P) (hw : Vw P 4 w (o.row.map valV)) (hwc : w.oneCell' = true) (hwf : ∀ v ∈ o.row, v.wf) (hlen : o.row.length ≤ 3000) : ActS tb b ub bx x r o w 3 P := by
  unfold ActS actT
  rw [if_neg (by decide), if_neg (by decide), if_pos rfl]
  have h1 := relDo_spec b r o w P hp.ro hU hw hwc hwf (by omega)
  have h2 := fun Q (e : Ext P Q) => do14_spec bx r o w Q hp.ro hp.wr (hU.ext e) (e.vw hw) hwc hwf
  obtain ⟨kind, table, l⟩ := o
  dsimp only at h1 h2 ⊢
  have f1 : decide ((3 : Int) = (1 : Int)) = false := by decide
  have f2 : decide ((3 : Int) = (2 : Int)) = false := by decide
  have f3 : decide ((3 : Int) = (3 : Int)) = true := by decide
  refine spec_intro [] _ Tryz.func26 rfl Tryz.ntmps26 (by rfl) (fun w0 R => ?_)
  repeat' (first | (refine go_Y ?_; intros) | (refine gs_Y ?_ ?_ <;> (intro hgd; try (simp only [Bool.not_true, Bool.not_false] at hgd))) | (refine gc_Y ?_ ?_ <;> intro _) | fail)
  refine cl_Y (h1) ?_
  rintro ⟨⟨v1, hv1⟩, ⟨v2, hv2⟩, Q1⟩ ⟨hE1, _⟩
  dsimp only at hE1 ⊢
  refine opsL_mapL (fun _ h => rfP_ext hE1 (b := bx) (r := r) (Take.out1 (A := rfP P bx r) takeD h)) ?_
  repeat' (first | (refine go_Y ?_; intros) | (refine gs_Y ?_ ?_ <;> (intro hgd; try (simp only [Bool.not_true, Bool.not_false] at hgd))) | (refine gc_Y ?_ ?_ <;> intro _) | fail)
  refine cl_Y (h2 Q1 hE1) ?_
  rintro ⟨⟨v3, hv3⟩, ⟨v4, hv4⟩, Q2⟩ ⟨hE2, _⟩
  dsimp only at hE2 ⊢
  repeat' (first | (refine go_Y ?_; intros) | (refine gs_Y ?_ ?_ <;> (intro hgd; try (simp only [Bool.not_true, Bool.not_false] at hgd))) | (refine gc_Y ?_ ?_ <;> intro _) | fail)
  refine cont_map (fun _ h => relP_ext hE2 (b := b) (r := (r.doOp ⟨kind, table, l⟩).1) (Take.out1 (A := relP Q1 b (r.doOp ⟨kind, table, l⟩).1) takeD h)) ?_
  refine cont_map (fun _ h => txP_ext (hE1.trans hE2) (b := tb) (bn := b) (x := x) (Take.out1 (A := txP P tb b x) takeD h)) ?_
  refine cont_map (fun _ h => rtP_ext (hE1.trans hE2) (b := ub) (bn := bx) (x := x) (Take.out1 (A := rtP P ub bx x) takeD h)) ?_
  (refine rt_Y (y := Q2) (hrs := Tryz.results26) (hv := ?_) (hφ := ?_))
  · rfl
  · exact hE1.trans hE2
set_option maxHeartbeats 4000000 in
theorem act1_no (hp : Pt x r) (h0 : x.checkT r ≠ 0) : ActS tb b ub bx x r o w 1 P := by
  unfold ActS actT
  rw [if_pos rfl, if_neg h0]
  have h1 := txCheck_spec tb b x r P hp.xo
  have h2 : FSpec Tryz.prog 69 [.pointer (some ⟨tb, 0, none⟩)] [txP P tb b x, relP P b r, P] Unit (fun _ => True) (fun _ => .tuple #[.slice none 0 0, .int .i64 (x.checkT r)]) (fun _ => [txP P tb b x.abortT, relP P b r, P]) := by
    cases hov : x.over with
    | true =>
      have he : x.checkT r = 150 := by unfold Tx.checkT; rw [hov, if_pos rfl]
      rw [he, over_abort hov]
      exact commit_over tb b x r P hp.xo hov
    | false => exact commit_no tb b x r P hp.xo hov h0
  have h3 := rtCheck_spec ub bx x r P hp.xo hp.wx hp.ro hp.inv
  have h4 := rtCommit_no ub bx x r P hp.xo hp.wx hp.ro hp.inv h0
  have h5 := same15T_spec [] [] (.slice none 0 0) (.slice none 0 0) (relP P b r) (rfP P bx r) P vw_nil4 vw_nil4 (fun _ h => by simp at h) (fun _ h => by simp at h) (by simp) (fun _ h => by simp at h) rfl
  generalize x.checkT r = c at h1 h2 h3 h4
  have f1 : decide ((1 : Int) = (1 : Int)) = true := by decide
  have f2 : decide (c = c) = true := by simp
  refine spec_intro [] _ Tryz.func26 rfl Tryz.ntmps26 (by rfl) (fun w0 R => ?_)
  repeat' (first | (refine go_Y ?_; intros) | (refine gs_Y ?_ ?_ <;> (intro hgd; try (simp only [Bool.not_true, Bool.not_false] at hgd))) | (refine gc_Y ?_ ?_ <;> intro _) | fail)
  refine cl_Y (h1) ?_
  intro _ _
  repeat' (first | (refine go_Y ?_; intros) | (refine gs_Y ?_ ?_ <;> (intro hgd; try (simp only [Bool.not_true, Bool.not_false] at hgd))) | (refine gc_Y ?_ ?_ <;> intro _) | fail)
  refine cl_Y (h2) ?_
  intro _ _
  repeat' (first | (refine go_Y ?_; intros) | (refine gs_Y ?_ ?_ <;> (intro hgd; try (simp only [Bool.not_true, Bool.not_false] at hgd))) | (refine gc_Y ?_ ?_ <;> intro _) | fail)
  refine cl_Y (h3) ?_
  intro _ _
  repeat' (first | (refine go_Y ?_; intros) | (refine gs_Y ?_ ?_ <;> (intro hgd; try (simp only [Bool.not_true, Bool.not_false] at hgd))) | (refine gc_Y ?_ ?_ <;> intro _) | fail)
  refine cl_Y (h4) ?_
  intro _ _
  repeat' (first | (refine go_Y ?_; intros) | (refine gs_Y ?_ ?_ <;> (intro hgd; try (simp only [Bool.not_true, Bool.not_false] at hgd))) | (refine gc_Y ?_ ?_ <;> intro _) | fail)
  refine cl_Y (h5) ?_
  intro _ _
  repeat' (first | (refine go_Y ?_; intros) | (refine gs_Y ?_ ?_ <;> (intro hgd; try (simp only [Bool.not_true, Bool.not_false] at hgd))) | (refine gc_Y ?_ ?_ <;> intro _) | fail)
  (refine rt_Y (y := P) (hrs := Tryz.results26) (hv := ?_) (hφ := ?_))
  · rfl
  · exact Ext.refl P
set_option maxHeartbeats 4000000 in
theorem act1_yes (hp : Pt x r) (hU : UT P) (h0 : x.checkT r = 0) : ActS tb b ub bx x r o w 1 P := by
  unfold ActS actT
  rw [if_pos rfl, if_pos h0]
  have h1 := txCheck_spec tb b x r P hp.xo
  have h2 := commit_yes tb b x r P hp.xo hU hp.ro h0
  have h3 := fun Q (e : Ext P Q) => rtCheck_spec ub bx x r Q hp.xo hp.wx hp.ro hp.inv
  have h4 := fun Q (e : Ext P Q) => rtCommit_yes ub bx x r Q hp.xo hp.wx hp.ro hp.wr (hU.ext e) hp.inv h0
  have hch := hp.xo.chg
  have h60 := hp.xo.len
  rw [h0] at h1 h3
  have f1 : decide ((1 : Int) = (1 : Int)) = true := by decide
  have f2 : decide ((0 : Int) = (0 : Int)) = true := by decide
  refine spec_intro [] _ Tryz.func26 rfl Tryz.ntmps26 (by rfl) (fun w0 R => ?_)
  repeat' (first | (refine go_Y ?_; intros) | (refine gs_Y ?_ ?_ <;> (intro hgd; try (simp only [Bool.not_true, Bool.not_false] at hgd))) | (refine gc_Y ?_ ?_ <;> intro _) | fail)
  refine cl_Y (h1) ?_
  intro _ _
  repeat' (first | (refine go_Y ?_; intros) | (refine gs_Y ?_ ?_ <;> (intro hgd; try (simp only [Bool.not_true, Bool.not_false] at hgd))) | (refine gc_Y ?_ ?_ <;> intro _) | fail)
  refine cl_Y (h2) ?_
  rintro ⟨⟨v1, hv1⟩, c1, Q1⟩ ⟨hE1, hc1, hm1⟩
  dsimp only at hE1 hc1 hm1 ⊢
  refine opsL_mapL (fun _ h => rtP_ext hE1 (b := ub) (bn := bx) (x := x) (Take.out1 (A := rtP P ub bx x) takeD h)) ?_
  refine opsL_mapL (fun _ h => rfP_ext hE1 (b := bx) (r := r) (Take.out1 (A := rfP P bx r) takeD h)) ?_
  repeat' (first | (refine go_Y ?_; intros) | (refine gs_Y ?_ ?_ <;> (intro hgd; try (simp only [Bool.not_true, Bool.not_false] at hgd))) | (refine gc_Y ?_ ?_ <;> intro _) | fail)
  refine cl_Y (h3 Q1 hE1) ?_
  intro _ _
  repeat' (first | (refine go_Y ?_; intros) | (refine gs_Y ?_ ?_ <;> (intro hgd; try (simp only [Bool.not_true, Bool.not_false] at hgd))) | (refine gc_Y ?_ ?_ <;> intro _) | fail)
  refine cl_Y (h4 Q1 hE1) ?_
  rintro ⟨Q2, ⟨bo, vo, os, vl, c2⟩⟩ ⟨hE2, hy⟩
  dsimp only at hE2 hy ⊢
  have h5 := same15T_spec c1 c2 v1 vl (row 129 4 v1 (c1.map cmV)) (row 129 4 vl (c2.map cmV)) Q2 Vw.row Vw.row (fun x h => (hc1 x h).ext hE2) (fun x h => hy.cs x h) (by
    have := congrArg List.length hm1
    rw [List.length_map] at this; omega) (fun q hq => hch q.c (by rw [← hm1]; exact List.mem_map_of_mem hq)) (by rw [hm1]; exact hy.l)
  repeat' (first | (refine go_Y ?_; intros) | (refine gs_Y ?_ ?_ <;> (intro hgd; try (simp only [Bool.not_true, Bool.not_false] at hgd))) | (refine gc_Y ?_ ?_ <;> intro _) | fail)
  refine cl_Y (h5) ?_
  intro _ _
  repeat' (first | (refine go_Y ?_; intros) | (refine gs_Y ?_ ?_ <;> (intro hgd; try (simp only [Bool.not_true, Bool.not_false] at hgd))) | (refine gc_Y ?_ ?_ <;> intro _) | fail)
  refine cont_map (fun _ h => rt_in (P := Q2) (x := x.abortT) (ov := true) rfl rfl hy (Take.out takeD h)) ?_
  refine cont_map (fun _ h => relP_ext hE2 (b := b) (r := r.play x.redo) (Take.out1 (A := relP Q1 b (r.play x.redo)) takeD h)) ?_
  refine cont_map (fun _ h => txP_ext hE2 (b := tb) (bn := b) (x := x.abortT) (Take.out1 (A := txP Q1 tb b x.abortT) takeD h)) ?_
  (refine rt_Y (y := Q2) (hrs := Tryz.results26) (hv := ?_) (hφ := ?_))
  · rfl
  · exact hE1.trans hE2
set_option maxHeartbeats 8000000 in
theorem act0_spec (e : Int) (n1 : e ≠ 1) (n2 : e ≠ 2) (n3 : e ≠ 3) (hp : Pt x r) (hU : UT P) (hw : Vw P 4 w (o.row.map valV)) (hwc : w.oneCell' = true) (hwf : ∀ v ∈ o.row, v.wf) (hlen : o.row.length ≤ 3000) : ActS tb b ub bx x r o w e P := by
  unfold ActS actT
  rw [if_neg n1, if_neg n2, if_neg n3]
  have hp' := hp.doT (o := o) (by omega) hwf
  have f1 : decide (e = (1 : Int)) = false := by simp [n1]
  have f2 : decide (e = (2 : Int)) = false := by simp [n2]
  have f3 : decide (e = (3 : Int)) = false := by simp [n3]
  have htx := fun Q (e : Ext P Q) v (hv : Vw Q 4 v (o.row.map valV)) (hc : v.oneCell' = true) => txDo_spec tb b x o v Q hp.xo (hU.ext e) hv hc hwf (by omega)
  have hrt := fun Q (e : Ext P Q) => rtDo_spec ub bx x o w Q hp.xo hp.wx (hU.ext e) (e.vw hw) hwc hwf (by omega)
  have hc1 := fun Q => txCheck_spec tb b (x.doT o).1 r Q hp'.xo
  have hc2 := fun Q => rtCheck_spec ub bx (x.doT o).1 r Q hp'.xo hp'.wx hp'.ro hp'.inv
  have hwt := fun v hv => (hwf v hv).t
  obtain ⟨kind, table, l⟩ := o
  dsimp only at htx hrt hw hlen hwt ⊢
  generalize x.doT ⟨kind, table, l⟩ = y at htx hrt hc1 hc2 hp' ⊢
  obtain ⟨x', c⟩ := y
  dsimp only at htx hrt hc1 hc2 hp' ⊢
  have hc1 := fun Q => hc1 Q
  have e1 : decide (c = c) = true := by simp
  have e2 : decide (x'.checkT r = x'.checkT r) = true := by simp
  refine spec_intro [] _ Tryz.func26 rfl Tryz.ntmps26 (by rfl) (fun w0 R => ?_)
  refine ok_learn (VwIn.slice (VwIn.there (VwIn.there (VwIn.there (VwIn.there (VwIn.here hw)))))) ?_
  rintro ⟨pw, cw, rfl⟩
  repeat' (first | (refine go_Y ?_; intros) | (refine gs_Y ?_ ?_ <;> (intro hgd; try (simp only [Bool.not_true, Bool.not_false] at hgd))) | (refine gc_Y ?_ ?_ <;> intro _) | fail)
  rename_i b9 v9 hv9
  refine ops_pool1 (ty := 39) (n := 3) (v := v9) (xs := [[.int .u8 kind, .int .i64 table, .slice pw (l.map valV).length cw]]) (P := P) takeD ?_
  intro Q1 g1 w1
  have hco := copyOps_spec v9 [⟨kind, table, ⟨.slice pw (l.map valV).length cw, rfl⟩, l⟩] Q1 ⟨w1, fun o ho => by
    rw [List.mem_singleton] at ho; subst ho
    exact ⟨g1.vw hw, by dsimp only; omega, hwt⟩, by simp⟩ ⟨by simp, fun o ho => by
    rw [List.mem_singleton] at ho; subst ho; exact hlen⟩
  refine cl_Y (hco) ?_
  rintro ⟨⟨vo2, hvo2⟩, l2, Q2⟩ ⟨g2, hom, hmap⟩
  dsimp only at g2 hom hmap ⊢
  obtain ⟨⟨v2, hv2⟩, rfl⟩ : ∃ v2, l2 = [Om.mk kind table v2 l] := by
    match l2, hmap with
    | [⟨a, b, c, d⟩], h =>
      simp only [List.map_cons, List.map_nil, Om.c, List.cons.injEq, and_true, Opr.mk.injEq] at h
      obtain ⟨rfl, rfl, rfl⟩ := h
      exact ⟨c, rfl⟩
    | [], h => simp at h
    | _ :: _ :: _, h => simp at h
  have hv2w := (hom _ (List.mem_singleton.2 rfl)).vw
  dsimp only at hv2w
  refine ops_learn (rowShape (e := 39) (n := 3) (v := vo2) (xs := ([⟨kind, table, ⟨v2, hv2⟩, l⟩] : List Om).map opV) (by decide) takeD) ?_
  rintro (⟨_, e9⟩ | ⟨g9, c9, rfl, _⟩)
  · simp at e9
  have hx0 : (([⟨kind, table, ⟨v2, hv2⟩, l⟩] : List Om).map opV)[0]? = some [.int .u8 kind, .int .i64 table, v2] := rfl
  have hl0 : 0 < (([⟨kind, table, ⟨v2, hv2⟩, l⟩] : List Om).map opV).length := by simp
  refine opsL_mapL (fun _ h => txP_ext (g1.trans g2) (b := tb) (bn := b) (x := x) (Take.out1 (A := txP P tb b x) takeD h)) ?_
  repeat' (first | (refine go_Y ?_; intros) | (refine gs_Y ?_ ?_ <;> (intro hgd; try (simp only [Bool.not_true, Bool.not_false] at hgd))) | (refine gc_Y ?_ ?_ <;> intro _) | fail)
  refine cl_Y (htx Q2 (g1.trans g2) v2 hv2w hv2) ?_
  intro Q3 g3
  have gg := (g1.trans g2).trans g3
  refine opsL_mapL (fun _ h => rtP_ext gg (b := ub) (bn := bx) (x := x) (Take.out1 (A := rtP P ub bx x) takeD h)) ?_
  repeat' (first | (refine go_Y ?_; intros) | (refine gs_Y ?_ ?_ <;> (intro hgd; try (simp only [Bool.not_true, Bool.not_false] at hgd))) | (refine gc_Y ?_ ?_ <;> intro _) | fail)
  refine cl_Y (hrt Q3 gg) ?_
  intro Q4 g4
  refine opsL_mapL (fun _ h => txP_ext g4 (b := tb) (bn := b) (x := x') (Take.out1 (A := txP Q3 tb b x') takeD h)) ?_
  refine opsL_mapL (fun _ h => relP_ext (gg.trans g4) (b := b) (r := r) (Take.out1 (A := relP P b r) takeD h)) ?_
  refine opsL_mapL (fun _ h => rfP_ext (gg.trans g4) (b := bx) (r := r) (Take.out1 (A := rfP P bx r) takeD h)) ?_
  repeat' (first | (refine go_Y ?_; intros) | (refine gs_Y ?_ ?_ <;> (intro hgd; try (simp only [Bool.not_true, Bool.not_false] at hgd))) | (refine gc_Y ?_ ?_ <;> intro _) | fail)
  refine cl_Y (hc1 Q4) ?_
  intro _ _
  repeat' (first | (refine go_Y ?_; intros) | (refine gs_Y ?_ ?_ <;> (intro hgd; try (simp only [Bool.not_true, Bool.not_false] at hgd))) | (refine gc_Y ?_ ?_ <;> intro _) | fail)
  refine cl_Y (hc2 Q4) ?_
  intro _ _
  repeat' (first | (refine go_Y ?_; intros) | (refine gs_Y ?_ ?_ <;> (intro hgd; try (simp only [Bool.not_true, Bool.not_false] at hgd))) | (refine gc_Y ?_ ?_ <;> intro _) | fail)
  (refine rt_Y (y := Q4) (hrs := Tryz.results26) (hv := ?_) (hφ := ?_))
  · rfl
  · exact gg.trans g4
end
end Go.Proofs.YtbagfdolcabniaaGreatDoor
