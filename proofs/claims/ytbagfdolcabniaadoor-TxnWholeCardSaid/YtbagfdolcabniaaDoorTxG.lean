/- The walk of txn.Txn.Commit. -/
import Derived.Test.YtbagfdolcabniaaDoorTxF
-- @DEFS Y
set_option linter.unusedSimpArgs false
set_option linter.unusedVariables false
set_option maxRecDepth 100000
set_option pp.deepTerms true
set_option pp.maxSteps 200000
namespace Go.Pl
open Go
def Rl.play (r : Rl) (l : List Opr) : Rl := l.foldl (fun r o => (r.doOp o).1) r
theorem Rl.Ok.play {r : Rl} (h : r.Ok) : ∀ (l : List Opr), (r.play l).Ok
  | [] => h
  | o :: l => Rl.Ok.play (h.doOp o) l
theorem Rl.play_snoc (r : Rl) (l : List Opr) (o : Opr) : r.play (l ++ [o]) = ((r.play l).doOp o).1 := by
  unfold Rl.play; rw [List.foldl_append]; rfl
end Go.Pl
namespace Go.Proofs.YtbagfdolcabniaaDoor
open Go Go.Fx Go.Proofs Go.Pl

theorem again_spec (bn bx : Nat) (r : Rl) (o : Opr) (w : Value) (P : HProp) (hok : r.Ok) (hU : UT P) (hrd : Rd P bx (.cells [.int .u8 o.kind, .int .i64 o.table, w].toArray 28)) (hw : Vw P 4 w (o.row.map valV)) (hwc : w.oneCell' = true) (hwf : ∀ v ∈ o.row, v.wf) (hlen : o.row.length ≤ 1000000) :
    FSpec Tryd.prog 64 [.pointer (some ⟨bn, 0, none⟩), .pointer (some ⟨bx, 0, none⟩)] [relP P bn r, P] HProp (fun P' => Ext P P') (fun _ => .tuple #[]) (fun P' => [relP P' bn (r.doOp o).1, P']) := by
  have hdo := relDo_spec bn r o w P hok hU hw hwc hwf hlen
  refine spec_intro [] _ Tryd.func64 rfl Tryd.ntmps64 (by rfl) (fun w0 R => ?_)
  repeat' (first | (refine go_Y ?_; intros) | (refine gs_Y ?_ ?_ <;> (intro hgd; try (simp only [Bool.not_true, Bool.not_false] at hgd))) | (refine gc_Y ?_ ?_ <;> intro _) | fail)
  refine cl_Y (hdo) ?_
  rintro ⟨⟨b4, hb4⟩, ⟨a4, ha4⟩, P'⟩ ⟨hE', hbv⟩
  dsimp only at hE' hbv ⊢
  repeat' (first | (refine go_Y ?_; intros) | (refine gs_Y ?_ ?_ <;> (intro hgd; try (simp only [Bool.not_true, Bool.not_false] at hgd))) | (refine gc_Y ?_ ?_ <;> intro _) | fail)
  (refine rt_Y (y := P') (hrs := Tryd.results64) (hv := ?_) (hφ := ?_))
  · rfl
  · exact hE'

theorem commit_over (b bn : Nat) (x : Tx) (on : Rl) (P : HProp) (hx : x.Ok) (hov : x.over = true) : FSpec Tryd.prog 37 [.pointer (some ⟨b, 0, none⟩)] [txP P b bn x, relP P bn on, P] Unit (fun _ => True)
    (fun _ => .tuple #[.slice none 0 0, .int .i64 150]) (fun _ => [txP P b bn x, relP P bn on, P]) := by
  have hc := txCheck_spec b bn x on P hx
  have he : x.checkT on = 150 := by unfold Tx.checkT; rw [hov, if_pos rfl]
  rw [he] at hc
  have f1 : decide ((150 : Int) = (150 : Int)) = true := by decide
  refine spec_intro [] _ Tryd.func37 rfl Tryd.ntmps37 (by rfl) (fun w0 R => ?_)
  repeat' (first | (refine go_Y ?_; intros) | (refine gs_Y ?_ ?_ <;> (intro hgd; try (simp only [Bool.not_true, Bool.not_false] at hgd))) | (refine gc_Y ?_ ?_ <;> intro _) | fail)
  refine cl_Y (hc) ?_
  intro _ _
  repeat' (first | (refine go_Y ?_; intros) | (refine gs_Y ?_ ?_ <;> (intro hgd; try (simp only [Bool.not_true, Bool.not_false] at hgd))) | (refine gc_Y ?_ ?_ <;> intro _) | fail)
  (refine rt_Y (y := ()) (hrs := Tryd.results37) (hv := ?_) (hφ := ?_))
  · rfl
  · trivial
theorem commit_no (b bn : Nat) (x : Tx) (on : Rl) (P : HProp) (hx : x.Ok) (hov : x.over = false) (h0 : x.checkT on ≠ 0) : FSpec Tryd.prog 37 [.pointer (some ⟨b, 0, none⟩)] [txP P b bn x, relP P bn on, P] Unit (fun _ => True)
    (fun _ => .tuple #[.slice none 0 0, .int .i64 (x.checkT on)]) (fun _ => [txP P b bn x.abortT, relP P bn on, P]) := by
  have h150 : x.checkT on ≠ 150 := by
    unfold Tx.checkT
    rw [hov, if_neg (by simp)]
    split
    · decide
    · cases x.own.whole <;> simp
  refine fspec_ex ?_
  rintro ⟨⟨bw, vr, rs, vl, cs⟩, hy⟩
  have hc := txCheckL_spec b bn x on P hx ⟨⟨bw, vr, rs, vl, cs⟩, hy⟩
  unfold txL at hc ⊢
  dsimp only at hc ⊢
  generalize x.checkT on = e at hc h0 h150 ⊢
  have f1 : decide (e = (150 : Int)) = false := by simp [h150]
  have f2 : (!decide (e = (0 : Int))) = true := by simp [h0]
  refine spec_intro [] _ Tryd.func37 rfl Tryd.ntmps37 (by rfl) (fun w0 R => ?_)
  repeat' (first | (refine go_Y ?_; intros) | (refine gs_Y ?_ ?_ <;> (intro hgd; try (simp only [Bool.not_true, Bool.not_false] at hgd))) | (refine gc_Y ?_ ?_ <;> intro _) | fail)
  refine cl_Y (hc) ?_
  intro _ _
  repeat' (first | (refine go_Y ?_; intros) | (refine gs_Y ?_ ?_ <;> (intro hgd; try (simp only [Bool.not_true, Bool.not_false] at hgd))) | (refine gc_Y ?_ ?_ <;> intro _) | fail)
  refine cont_map (fun _ h => tx_over hy (Take.out takeD h)) ?_
  (refine rt_Y (y := ()) (hrs := Tryd.results37) (hv := ?_) (hφ := ?_))
  · rfl
  · trivial
set_option maxHeartbeats 4000000 in
theorem commit_yes (b bn : Nat) (x : Tx) (on : Rl) (P : HProp) (hx : x.Ok) (hU : UT P) (hon : on.Ok) (h0 : x.checkT on = 0) : FSpec Tryd.prog 37 [.pointer (some ⟨b, 0, none⟩)] [txP P b bn x, relP P bn on, P] (V1s × List Cm × HProp)
    (fun y => Ext P y.2.2 ∧ (∀ c ∈ y.2.1, CmR y.2.2 c) ∧ y.2.1.map Cm.c = x.l) (fun y => .tuple #[y.1.1, .int .i64 0]) (fun y => [row 82 4 y.1.1 (y.2.1.map cmV), txP y.2.2 b bn x.abortT, relP y.2.2 bn (on.play x.redo), y.2.2]) := by
  refine fspec_ex ?_
  rintro ⟨⟨bw, vr, rs, vl, cs⟩, hy⟩
  have hc := txCheckL_spec b bn x on P hx ⟨⟨bw, vr, rs, vl, cs⟩, hy⟩
  unfold txL at hc ⊢
  dsimp only at hc ⊢
  rw [h0] at hc
  have f1 : decide ((0 : Int) = (150 : Int)) = false := by decide
  have f2 : (!decide ((0 : Int) = (0 : Int))) = false := by decide
  have hrl : (rs.map rmF).length = rs.length := by simp
  have hrr : rs.length = x.redo.length := by rw [← hy.redo]; simp
  have hl60 := hx.len
  have hrq := hx.rlen
  have hxa : x.abortT.Ok := ⟨hx.own, hx.len, hx.rlen, hx.rows, hx.chg, hx.t0, hx.t1⟩
  refine spec_intro [] _ Tryd.func37 rfl Tryd.ntmps37 (by rfl) (fun w0 R => ?_)
  refine ok_learn (row_shape' (e := 124) (n := 1) (v := vr) (xs := rs.map rmF) (by decide) takeD) ?_
  rintro ⟨pr, cr, rfl, hcr⟩
  repeat' (first | (refine go_Y ?_; intros) | (refine gs_Y ?_ ?_ <;> (intro hgd; try (simp only [Bool.not_true, Bool.not_false] at hgd))) | (refine gc_Y ?_ ?_ <;> intro _) | fail)
  refine cl_Y (hc) ?_
  intro _ _
  repeat' (first | (refine go_Y ?_; intros) | (refine gs_Y ?_ ?_ <;> (intro hgd; try (simp only [Bool.not_true, Bool.not_false] at hgd))) | (refine gc_Y ?_ ?_ <;> intro _) | fail)
  refine ok_map (L' := [relP P bn on, P, pts b (.cells [.pointer (some ⟨bn, 0, none⟩), .pointer (some ⟨bw, 0, none⟩), .int .u64 x.t0, .slice pr (rs.map rmF).length cr, vl, .bool true].toArray 122), row 124 1 (.slice pr (rs.map rmF).length cr) (rs.map rmF), row 82 4 vl (cs.map cmV), relP P bw x.own] ++ R) entD ?_
  refine ok_loop' (γ := Nat × HProp) (fun y ρ L => y.1 ≤ rs.length ∧ Ext P y.2 ∧ Knows ρ [(0, .pointer (some ⟨b, 0, none⟩)), (25, .slice pr (rs.map rmF).length cr), (26, .int .i64 ((rs.map rmF).length : Int)), (27, .int .i64 y.1)] ∧
      L = [relP y.2 bn (on.play (x.redo.take y.1)), y.2, pts b (.cells [.pointer (some ⟨bn, 0, none⟩), .pointer (some ⟨bw, 0, none⟩), .int .u64 x.t0, .slice pr (rs.map rmF).length cr, vl, .bool true].toArray 122), row 124 1 (.slice pr (rs.map rmF).length cr) (rs.map rmF), row 82 4 vl (cs.map cmV), relP P bw x.own] ++ R) (fun y => rs.length - y.1)
    (0, P) ⟨by omega, Ext.refl P, ⟨rfl, rfl, rfl, rfl, trivial⟩, rfl⟩ ?_
  rintro ⟨k, Q⟩ ρ L ⟨hk1, hext, hk, rfl⟩
  dsimp only at hk1 hext hk ⊢
  refine ok_regs hk ?_
  cases t1 : decide ((k : Int) < ((rs.map rmF).length : Int)) with
  | true =>
    have hkl : k < rs.length := by have := of_decide_eq_true t1; omega
    have hn1 : k < (rs.map rmF).length := by omega
    have hki : rs[k]? = some rs[k] := List.getElem?_eq_getElem hkl
    have hxx : (rs.map rmF)[k]? = some (rmF rs[k]) := by rw [List.getElem?_map, hki]; rfl
    have hm := List.getElem_mem hkl
    have hrm := (hy.rs _ hm).ext hext
    have hrow := hx.rows rs[k].c (by rw [← hy.redo]; exact List.mem_map_of_mem hm)
    have htk : x.redo.take (k + 1) = x.redo.take k ++ [rs[k].c] := by
      rw [← hy.redo, List.take_succ_eq_append_getElem (by rw [List.length_map]; exact hkl)]
      simp
    refine ok_learn (rowShape (e := 124) (n := 1) (v := .slice pr (rs.map rmF).length cr) (xs := rs.map rmF) (by decide) takeD) ?_
    rintro (⟨e, hn⟩ | ⟨g, cap, e, _⟩)
    · rw [hn] at hn1; simp at hn1
    simp only [Value.slice.injEq] at e
    obtain ⟨rfl, _, rfl⟩ := e
    have hag := again_spec bn rs[k].bx (on.play (x.redo.take k)) rs[k].c rs[k].w.1 Q (hon.play _) (hU.ext hext) hrm.rd hrm.vw rs[k].w.2 hrow.2 hrow.1
    have hps := Rl.play_snoc on (x.redo.take k) rs[k].c
    rw [← htk] at hps
    generalize rs[k] = q at hxx hag hps
    dsimp only [rmF] at hxx
    have hv := vspec_func (args := [.pointer (some ⟨bn, 0, none⟩)]) (cap := [.pointer (some ⟨q.bx, 0, none⟩)]) hag
    rw [← hps] at hv
    repeat' (first | (refine go_Y ?_; intros) | (refine gs_Y ?_ ?_ <;> (intro hgd; try (simp only [Bool.not_true, Bool.not_false] at hgd))) | (refine gc_Y ?_ ?_ <;> intro _) | fail)
    refine clV_Y (hv) ?_
    intro Q' hE
    repeat' (first | (refine go_Y ?_; intros) | (refine gs_Y ?_ ?_ <;> (intro hgd; try (simp only [Bool.not_true, Bool.not_false] at hgd))) | (refine gc_Y ?_ ?_ <;> intro _) | fail)
    refine cont_map (L' := [relP Q' bn (on.play (x.redo.take (k + 1))), Q', pts b (.cells [.pointer (some ⟨bn, 0, none⟩), .pointer (some ⟨bw, 0, none⟩), .int .u64 x.t0, .slice (some ⟨g, 0, none⟩) (rs.map rmF).length cr, vl, .bool true].toArray 122), row 124 1 (.slice (some ⟨g, 0, none⟩) (rs.map rmF).length cr) (rs.map rmF), row 82 4 vl (cs.map cmV), relP P bw x.own] ++ R) entD ?_
    refine cont_back (k + 1, Q') ⟨by dsimp only; omega, hext.trans hE, ⟨rfl, rfl, rfl, rfl, trivial⟩, rfl⟩ (by show rs.length - (k + 1) < rs.length - k; omega)
  | false =>
    have hkr : k = rs.length := by have := of_decide_eq_false t1; omega
    have htk : x.redo.take k = x.redo := by rw [List.take_of_length_le (by omega)]
    rw [htk]
    have hch := txChanges_spec b bn x.abortT Q hxa
    repeat' (first | (refine go_Y ?_; intros) | (refine gs_Y ?_ ?_ <;> (intro hgd; try (simp only [Bool.not_true, Bool.not_false] at hgd))) | (refine gc_Y ?_ ?_ <;> intro _) | fail)
    refine opsL_map (fun _ h => relP_ext (b := bw) (r := x.own) hext (Take.out1 takeD h)) ?_
    refine opsL_map (fun _ h => tx_over (b := b) (bn := bn) (hy.ext hext) (Take.out takeD h)) ?_
    refine cl_Y (hch) ?_
    rintro ⟨⟨v, hv⟩, ck, Q'⟩ ⟨hE, hcr', hcm⟩
    dsimp only at hE hcr' hcm ⊢
    repeat' (first | (refine go_Y ?_; intros) | (refine gs_Y ?_ ?_ <;> (intro hgd; try (simp only [Bool.not_true, Bool.not_false] at hgd))) | (refine gc_Y ?_ ?_ <;> intro _) | fail)
    refine cont_map (fun _ h => relP_ext (b := bn) (r := on.play x.redo) hE (Take.out1 takeD h)) ?_
    (refine rt_Y (y := (⟨v, hv⟩, ck, Q')) (hrs := Tryd.results37) (hv := ?_) (hφ := ?_))
    · rfl
    · exact ⟨hext.trans hE, hcr', hcm⟩
end Go.Proofs.YtbagfdolcabniaaDoor
