/- Texts merged: DkE DkF DkG DkH. -/
import Derived.Test.YtbagfdolcabniaaGreatG1
/- The walks of package disk, part E: the closures of a call. -/
-- @DEFS Z
set_option linter.unusedSimpArgs false
set_option linter.unusedVariables false
set_option maxRecDepth 4000
namespace Go.Proofs.YtbagfdolcabniaaGreat
open Go Go.Fx Go.Proofs Go.Pl

theorem lay_spec (m bn bs : Nat) (F : FS) (n s : ByteArray) (k : Int) (hk : 0 ≤ k) (hz : (ftext n F).size + s.size ≤ 1099511627776) : FSpec Tryz.prog 48 [.map (some m), .int .i64 k, .pointer (some ⟨bn, 0, none⟩), .pointer (some ⟨bs, 0, none⟩)]
    [mapK KStr m (encF F), pts bn (.cells [.string n].toArray 9), pts bs (.cells [.string s].toArray 9)] Unit (fun _ => True) (fun _ => .tuple #[])
    (fun _ => [mapK KStr m (encF (fput n (ftext n F ++ s.extract 0 (if (s.size : Int) < k then (s.size : Int) else k).toNat) F)), pts bn (.cells [.string n].toArray 9), pts bs (.cells [.string s].toArray 9)]) := by
  have hg := getK_encF n F
  have hr : 0 ≤ (if (s.size : Int) < k then (s.size : Int) else k) ∧ (if (s.size : Int) < k then (s.size : Int) else k) ≤ (s.size : Int) := by split <;> omega
  have hx : (s.extract 0 (if (s.size : Int) < k then (s.size : Int) else k).toNat).size ≤ s.size := by rw [ByteArray.size_extract]; omega
  have hp := putK_encF n (ftext n F ++ s.extract 0 (if (s.size : Int) < k then (s.size : Int) else k).toNat) F
  rw [← hp]
  clear hp
  cases hf : fget n F with
  | none =>
    rw [hf] at hg
    simp only [Option.map_none] at hg
    have ht : ftext n F = ({ data := #[] } : ByteArray) := by unfold ftext; rw [hf]; rfl
    rw [ht] at hz ⊢
    refine spec_intro [] _ Tryz.func48 rfl Tryz.ntmps48 (by rfl) (fun w0 R => ?_)
    repeat' (first | (refine go_Z ?_; intros) | (refine gs_Z ?_ ?_ <;> (intro hgd; try (simp only [Bool.not_true, Bool.not_false] at hgd))) | (refine gc_Z ?_ ?_ <;> intro _) | fail)
    (refine rt_Z (y := ()) (hrs := Tryz.results48) (hv := ?_) (hφ := ?_))
    · rfl
    · trivial
  | some t =>
    rw [hf] at hg
    simp only [Option.map_some] at hg
    have ht : ftext n F = t := by unfold ftext; rw [hf]; rfl
    rw [ht] at hz ⊢
    refine spec_intro [] _ Tryz.func48 rfl Tryz.ntmps48 (by rfl) (fun w0 R => ?_)
    repeat' (first | (refine go_Z ?_; intros) | (refine gs_Z ?_ ?_ <;> (intro hgd; try (simp only [Bool.not_true, Bool.not_false] at hgd))) | (refine gc_Z ?_ ?_ <;> intro _) | fail)
    (refine rt_Z (y := ()) (hrs := Tryz.results48) (hv := ?_) (hφ := ?_))
    · rfl
    · trivial

theorem lay_whole {s : ByteArray} : s.extract 0 (if (s.size : Int) < (s.size : Int) then (s.size : Int) else (s.size : Int)).toNat = s := by
  rw [if_neg (by omega)]
  have : ((s.size : Int)).toNat = s.size := by simp
  rw [this]
  exact ByteArray.extract_zero_size

theorem app2_spec (m bn bs bl : Nat) (F : FS) (n s : ByteArray) (hz : (ftext n F).size + s.size ≤ 1099511627776) : FSpec Tryz.prog 50 [.map (some m), .pointer (some ⟨bl, 0, none⟩), .pointer (some ⟨bs, 0, none⟩)]
    [mapK KStr m (encF F), pts bn (.cells [.string n].toArray 9), pts bs (.cells [.string s].toArray 9), pts bl (.cells [.func (.func 48) #[] [.pointer (some ⟨bn, 0, none⟩), .pointer (some ⟨bs, 0, none⟩)].toArray].toArray 82)] Unit (fun _ => True) (fun _ => .tuple #[])
    (fun _ => [mapK KStr m (encF (Cl.run (.app n s) F)), pts bn (.cells [.string n].toArray 9), pts bs (.cells [.string s].toArray 9), pts bl (.cells [.func (.func 48) #[] [.pointer (some ⟨bn, 0, none⟩), .pointer (some ⟨bs, 0, none⟩)].toArray].toArray 82)]) := by
  have hv := vspec_func (args := [.map (some m), .int .i64 (s.size : Int)]) (cap := [.pointer (some ⟨bn, 0, none⟩), .pointer (some ⟨bs, 0, none⟩)]) (lay_spec m bn bs F n s s.size (by omega) hz)
  rw [lay_whole] at hv
  refine spec_intro [] _ Tryz.func50 rfl Tryz.ntmps50 (by rfl) (fun w0 R => ?_)
  repeat' (first | (refine go_Z ?_; intros) | (refine gs_Z ?_ ?_ <;> (intro hgd; try (simp only [Bool.not_true, Bool.not_false] at hgd))) | (refine gc_Z ?_ ?_ <;> intro _) | fail)
  refine clV_Z (hv) ?_
  intro _ _
  repeat' (first | (refine go_Z ?_; intros) | (refine gs_Z ?_ ?_ <;> (intro hgd; try (simp only [Bool.not_true, Bool.not_false] at hgd))) | (refine gc_Z ?_ ?_ <;> intro _) | fail)
  (refine rt_Z (y := ()) (hrs := Tryz.results50) (hv := ?_) (hφ := ?_))
  · rfl
  · trivial

theorem ren1_spec (m ba bb : Nat) (F : FS) (a b : ByteArray) : FSpec Tryz.prog 63 [.map (some m), .pointer (some ⟨ba, 0, none⟩), .pointer (some ⟨bb, 0, none⟩)]
    [mapK KStr m (encF F), pts ba (.cells [.string a].toArray 9), pts bb (.cells [.string b].toArray 9)] Unit (fun _ => True) (fun _ => .tuple #[])
    (fun _ => [mapK KStr m (encF (Cl.run (.ren a b) F)), pts ba (.cells [.string a].toArray 9), pts bb (.cells [.string b].toArray 9)]) := by
  have hg := getK_encF a F
  have hp := putK_encF b (ftext a F) F
  have hd := delK_encF a (fput b (ftext a F) F)
  have hrun : Cl.run (.ren a b) F = fdel a (fput b (ftext a F) F) := rfl
  rw [hrun, ← hd, ← hp]
  clear hp hrun hd
  cases hf : fget a F with
  | none =>
    rw [hf] at hg
    simp only [Option.map_none] at hg
    have ht : ftext a F = ({ data := #[] } : ByteArray) := by unfold ftext; rw [hf]; rfl
    rw [ht]
    refine spec_intro [] _ Tryz.func63 rfl Tryz.ntmps63 (by rfl) (fun w0 R => ?_)
    repeat' (first | (refine go_Z ?_; intros) | (refine gs_Z ?_ ?_ <;> (intro hgd; try (simp only [Bool.not_true, Bool.not_false] at hgd))) | (refine gc_Z ?_ ?_ <;> intro _) | fail)
    (refine rt_Z (y := ()) (hrs := Tryz.results63) (hv := ?_) (hφ := ?_))
    · rfl
    · trivial
  | some t =>
    rw [hf] at hg
    simp only [Option.map_some] at hg
    have ht : ftext a F = t := by unfold ftext; rw [hf]; rfl
    rw [ht]
    refine spec_intro [] _ Tryz.func63 rfl Tryz.ntmps63 (by rfl) (fun w0 R => ?_)
    repeat' (first | (refine go_Z ?_; intros) | (refine gs_Z ?_ ?_ <;> (intro hgd; try (simp only [Bool.not_true, Bool.not_false] at hgd))) | (refine gc_Z ?_ ?_ <;> intro _) | fail)
    (refine rt_Z (y := ()) (hrs := Tryz.results63) (hv := ?_) (hφ := ?_))
    · rfl
    · trivial

theorem rem1_spec (m ba : Nat) (F : FS) (a : ByteArray) : FSpec Tryz.prog 61 [.map (some m), .pointer (some ⟨ba, 0, none⟩)]
    [mapK KStr m (encF F), pts ba (.cells [.string a].toArray 9)] Unit (fun _ => True) (fun _ => .tuple #[])
    (fun _ => [mapK KStr m (encF (Cl.run (.rem a) F)), pts ba (.cells [.string a].toArray 9)]) := by
  have hrun : Cl.run (.rem a) F = fdel a F := rfl
  rw [hrun, ← delK_encF]
  refine spec_intro [] _ Tryz.func61 rfl Tryz.ntmps61 (by rfl) (fun w0 R => ?_)
  repeat' (first | (refine go_Z ?_; intros) | (refine gs_Z ?_ ?_ <;> (intro hgd; try (simp only [Bool.not_true, Bool.not_false] at hgd))) | (refine gc_Z ?_ ?_ <;> intro _) | fail)
  (refine rt_Z (y := ()) (hrs := Tryz.results61) (hv := ?_) (hφ := ?_))
  · rfl
  · trivial
end Go.Proofs.YtbagfdolcabniaaGreat
/- The walks of package disk, part F: a call is done. -/
-- @EXTRA dkC
set_option linter.unusedSimpArgs false
set_option linter.unusedVariables false
set_option maxRecDepth 4000
namespace Go.Proofs.YtbagfdolcabniaaGreat
open Go Go.Fx Go.Proofs Go.Pl
theorem go_DkF {G G' : Prop} (k : G') (h : Hid G' → G := by intro k; first | ((first | (first | (apply ok_seq) | (apply ok_block) | (apply ok_region) | (apply ok_skip) | (apply ok_ret) | (apply ok_exit) | (apply ok_label) | (apply ok_scope; (focus (exact rfl))) | (apply ok_cond_true; (focus ((conv => lhs; whnf); first | done | with_reducible rfl | (refine congrArg Value.bool ?_; with_reducible assumption)))) | (apply ok_cond_false; (focus ((conv => lhs; whnf); first | done | with_reducible rfl | (refine congrArg Value.bool ?_; with_reducible assumption)))) | (apply opsL_nil) | (apply ok_draw []; (focus (kernel_rfl)); (focus ((conv => lhs; whnf); first | done | rfl)); (focus (decide +kernel)); (focus (exact (fun _ h => h))))) | (first | (apply cont_then) | (apply cont_scope) | (apply cont_scope_ret) | (apply cont_scope_exit) | (apply cont_back_ret) | (apply cont_back_exit) | (apply cont_meet_ret) | (apply cont_meet_exit) | (apply cont_then_ret) | (apply cont_then_exit) | (apply cont_block) | (apply cont_block_ret) | (apply cont_block_here; (focus (exact rfl))) | (apply cont_block_past; (focus (exact rfl)))) | (apply ops_guard_skip (b' := false); (focus (exact rfl)); (focus (exact rfl)); (focus ((conv => lhs; whnf); first | done | with_reducible rfl | (refine congrArg Value.bool ?_; with_reducible assumption))); (focus (exact rfl)); (focus (exact (fun _ e => by cases e))); (focus (exact (fun _ e => by cases e; rfl)))) | (apply ops_guard_skip (b' := true); (focus (exact rfl)); (focus (exact rfl)); (focus ((conv => lhs; whnf); first | done | with_reducible rfl | (refine congrArg Value.bool ?_; with_reducible assumption))); (focus (exact rfl)); (focus (exact (fun _ e => by cases e))); (focus (exact (fun _ e => by cases e; rfl)))) | (apply ops_guard_undef; (focus (exact rfl)); (focus (exact rfl)); (focus (exact rfl)); (focus (exact (fun _ e => by cases e))); (focus (exact (fun _ e => by cases e; rfl)))) | ((try (first | (apply ops_run) | (apply ops_guard_run; (focus (exact rfl)); (focus (exact rfl)); (focus ((conv => lhs; whnf); first | done | with_reducible rfl | (refine congrArg Value.bool ?_; with_reducible assumption)))))); (first | (apply a_move; (focus ((conv => lhs; whnf); first | done | rfl)); (focus (exact rfl))) | (apply a_assign; (focus ((conv => lhs; whnf); first | done | rfl)); (focus (exact rfl))) | (apply a_fieldAddr; (focus (exact rfl)); (focus (exact rfl)); (focus (first | ((simp only [slot_add, Nat.reduceAdd, Nat.zero_add, Nat.add_zero]); first | done | rfl) | rfl)); (focus (exact rfl))) | (apply a_load; (focus (exact rfl)); (focus (exact rfl)); (focus ((repeat (first | exact RdIn.here (Rd.pts _ _) | (apply RdIn.here; apply Rd.orig; assumption) | (apply RdIn.here; with_reducible assumption) | apply RdIn.there)))); (focus (first | with_reducible assumption | exact rfl)); (focus (exact rfl))) | (apply a_loadA; (focus (exact rfl)); (focus ((repeat (first | exact RdIn.here (Rd.pts _ _) | (apply RdIn.here; apply Rd.orig; assumption) | (apply RdIn.here; with_reducible assumption) | apply RdIn.there)))); (focus (exact rfl)); (focus (first | ((simp only [List.take_succ_cons, List.take_zero, List.drop_succ_cons, List.drop_zero, List.nil_append, List.cons_append, List.append_assoc, List.append_nil, List.take_nil, List.drop_nil, dkC]); first | done | rfl) | exact rfl)); (focus (exact rfl))) | (apply a_nilCheck; (focus (exact rfl)); (focus (exact rfl))) | (apply a_nilCheck_func; (focus (exact rfl)); (focus (exact rfl))) | (apply a_nilCheck_yield; (focus (exact rfl)); (focus (exact rfl))) | (apply a_extract; (focus (exact rfl)); (focus (exact rfl)); (focus (exact rfl))) | (apply a_pick_true; (focus ((conv => lhs; whnf); first | done | with_reducible rfl | (refine congrArg Value.bool ?_; with_reducible assumption))); (focus ((conv => lhs; whnf); first | done | rfl)); (focus (exact rfl))) | (apply a_pick_false; (focus ((conv => lhs; whnf); first | done | with_reducible rfl | (refine congrArg Value.bool ?_; with_reducible assumption))); (focus ((conv => lhs; whnf); first | done | rfl)); (focus (exact rfl))) | (apply a_len_str; (focus (exact rfl)); (focus (exact rfl))) | (apply a_len_slice; (focus (exact rfl)); (focus (exact rfl))) | (apply a_cmp; (focus (exact rfl)); (focus (exact rfl)); (focus (exact rfl)); (focus ((simp only [cmpB, strB, nilB, Option.isNone_some, Option.isNone_none, Bool.not_true, Bool.not_false, decide_true, decide_false, Int.reduceEq, Int.reduceLT, Int.reduceLE, dkC]); first | done | rfl)); (focus (exact rfl))) | (apply a_strcmp; (focus (exact rfl)); (focus (exact rfl)); (focus (exact rfl)); (focus ((simp only [cmpB, strB, nilB, Option.isNone_some, Option.isNone_none, Bool.not_true, Bool.not_false, decide_true, decide_false, Int.reduceEq, Int.reduceLT, Int.reduceLE, dkC]); first | done | rfl)); (focus (exact rfl))) | (apply a_arith64; (focus (exact rfl)); (focus (exact rfl)); (focus (exact rfl)); (focus ((simp only [arith]); first | done | rfl)); (focus (omega)); (focus (exact rfl))) | (apply a_arith; (focus (exact rfl)); (focus (exact rfl)); (focus (exact rfl)); (focus (exact rfl))) | (apply a_not; (focus (exact rfl)); (focus (first | (with_reducible exact Bool.not_true) | (with_reducible exact Bool.not_false) | exact Bool.not_true | exact Bool.not_false | exact rfl)); (focus (exact rfl))) | (apply a_neg; (focus (exact rfl)); (focus (exact rfl))) | (apply a_compl; (focus (exact rfl)); (focus (exact rfl))) | (apply a_ptr_nil; (focus (exact rfl)); (focus (exact rfl)); (focus (exact rfl)); (focus ((simp only [cmpB, strB, nilB, Option.isNone_some, Option.isNone_none, Bool.not_true, Bool.not_false, decide_true, decide_false, Int.reduceEq, Int.reduceLT, Int.reduceLE, dkC]); first | done | rfl)); (focus (exact rfl))) | (apply a_booleq; (focus (exact rfl)); (focus (exact rfl)); (focus (exact rfl)); (focus ((simp only [cmpB, strB, nilB, Option.isNone_some, Option.isNone_none, Bool.not_true, Bool.not_false, decide_true, decide_false, Int.reduceEq, Int.reduceLT, Int.reduceLE, dkC]); first | done | rfl)); (focus (exact rfl))) | (apply a_map_nil; (focus (exact rfl)); (focus (exact rfl)); (focus (exact rfl)); (focus ((simp only [cmpB, strB, nilB, Option.isNone_some, Option.isNone_none, Bool.not_true, Bool.not_false, decide_true, decide_false, Int.reduceEq, Int.reduceLT, Int.reduceLE, dkC]); first | done | rfl)); (focus (exact rfl))) | (apply a_func_nil; (focus (exact rfl)); (focus (exact rfl)); (focus (exact rfl)); (focus ((simp only [cmpB, strB, nilB, Option.isNone_some, Option.isNone_none, Bool.not_true, Bool.not_false, decide_true, decide_false, Int.reduceEq, Int.reduceLT, Int.reduceLE, dkC]); first | done | rfl)); (focus (exact rfl))) | (apply a_nilfunc_nil; (focus (exact rfl)); (focus (exact rfl)); (focus (exact rfl)); (focus ((simp only [cmpB, strB, nilB, Option.isNone_some, Option.isNone_none, Bool.not_true, Bool.not_false, decide_true, decide_false, Int.reduceEq, Int.reduceLT, Int.reduceLE, dkC]); first | done | rfl)); (focus (exact rfl))) | (apply a_slice_nil; (focus (exact rfl)); (focus (exact rfl)); (focus (exact rfl)); (focus ((simp only [cmpB, strB, nilB, Option.isNone_some, Option.isNone_none, Bool.not_true, Bool.not_false, decide_true, decide_false, Int.reduceEq, Int.reduceLT, Int.reduceLE, dkC]); first | done | rfl)); (focus (exact rfl))) | (apply a_build; (focus ((repeat (first | exact EvP.nil | (apply EvP.cons; (focus ((conv => lhs; whnf); first | done | rfl))))))); (focus (exact rfl)); (focus (first | ((simp only [Value.cells, List.take_succ_cons, List.take_zero, List.drop_succ_cons, List.drop_zero, List.nil_append, List.cons_append, List.append_assoc, List.append_nil, List.take_nil, List.drop_nil, Nat.reduceAdd, Nat.zero_add, dkC]); first | done | rfl) | exact rfl)); (focus (exact rfl))) | (apply a_field1; (focus (exact rfl)); (focus (exact rfl)); (focus (exact rfl))) | (apply a_fieldA; (focus (exact rfl)); (focus (first | ((simp only [List.take_succ_cons, List.take_zero, List.drop_succ_cons, List.drop_zero, List.nil_append, List.cons_append, List.append_assoc, List.append_nil, List.take_nil, List.drop_nil, dkC]); first | done | rfl) | exact rfl)); (focus (exact rfl))) | (apply a_bits; (focus (exact rfl)); (focus (exact rfl)); (focus (exact rfl)); (focus (exact rfl))) | (apply a_shift; (focus (exact rfl)); (focus (exact rfl)); (focus (first | omega | assumption | decide)); (focus (exact rfl)); (focus (exact rfl))) | (apply s_store; (focus (exact rfl)); (focus ((conv => lhs; whnf); first | done | rfl)); (focus (first | exact one_cells rfl | (apply one_cells; with_reducible assumption) | exact agg_cells _)); (focus ((repeat (first | exact Sel.here | apply Sel.there)))); (focus (first | exact rfl | (exact one_one (by assumption)) | with_reducible assumption)); (focus (exact rfl)); (focus (first | with_reducible assumption | exact rfl)); (focus (first | ((simp only [List.take_succ_cons, List.take_zero, List.drop_succ_cons, List.drop_zero, List.nil_append, List.cons_append, List.append_assoc, List.append_nil, List.take_nil, List.drop_nil, dkC]); first | done | rfl) | exact rfl)); (focus (exact rfl))) | (apply a_makeFunc; (focus ((repeat (first | exact EvA.nil | (apply EvA.cons; (focus ((conv => lhs; whnf); first | done | rfl))))))); (focus ((repeat (first | exact EvA.nil | (apply EvA.cons; (focus ((conv => lhs; whnf); first | done | rfl))))))); (focus (exact rfl))) | (apply a_ptr_eq; (focus (exact rfl)); (focus (exact rfl)); (focus (exact rfl)); (focus (exact rfl)); (focus ((repeat (first | exact RdIn.here (Rd.pts _ _) | (apply RdIn.here; apply Rd.orig; assumption) | (apply RdIn.here; with_reducible assumption) | apply RdIn.there)))); (focus ((repeat (first | exact RdIn.here (Rd.pts _ _) | (apply RdIn.here; apply Rd.orig; assumption) | (apply RdIn.here; with_reducible assumption) | apply RdIn.there)))); (focus (first | exact eql_same | exact neq_same | ((first | refine eql_ne ?_ | refine neq_ne ?_); simp [*]; first | done | fail) | exact rfl)); (focus (exact rfl))) | (apply a_structeq; (focus (exact rfl)); (focus (exact rfl)); (focus (exact rfl)); (focus (exact rfl)); (focus (exact rfl)); (focus (exact rfl))) | (apply a_len_view; (focus ((conv => lhs; whnf); first | done | rfl)); (focus ((repeat (first | exact VwIn.here Vw.row | exact VwIn.here Vw.bytes | (apply VwIn.here; assumption) | apply VwIn.there)); first | done | fail)); (focus (exact rfl))) | (apply a_lookup; (focus (exact rfl)); (focus ((conv => lhs; whnf); first | done | rfl)); (focus ((repeat (first | exact MpIn.here (fun _ h => h) | exact MpIn.here (fun _ h => rangeK.map h) | apply MpIn.there)); first | done | fail)); (focus (first | with_reducible assumption | exact rfl)); (focus ((simp only [lookOf, Option.getD_some, Option.getD_none, Option.isSome_some, Option.isSome_none, if_true, if_false, Bool.false_eq_true, dkC]); first | done | rfl)); (focus (exact rfl))) | (apply a_lookup_nil; (focus (exact rfl)); (focus ((conv => lhs; whnf); first | done | rfl)); (focus ((simp only [lookOf, Option.getD_some, Option.getD_none, Option.isSome_some, Option.isSome_none, if_true, if_false, Bool.false_eq_true, dkC]); first | done | rfl)); (focus (exact rfl))) | (apply a_entry; (focus (exact rfl)); (focus ((repeat (first | exact CurIn.here | apply CurIn.there)); first | done | fail)); (focus (exact rfl))) | (apply a_max; (focus (exact rfl)); (focus (exact rfl)); (focus (exact rfl))) | (apply a_min; (focus (exact rfl)); (focus (exact rfl)); (focus (exact rfl))) | (apply a_slice_lo; (focus (exact rfl)); (focus (exact rfl)); (focus (first | assumption | omega)); (focus (exact rfl))) | (apply a_slice_hi; (focus (exact rfl)); (focus (exact rfl)); (focus (first | assumption | omega)); (focus (exact rfl))) | (apply a_slice_both; (focus (exact rfl)); (focus (exact rfl)); (focus (exact rfl)); (focus (first | assumption | omega)); (focus (exact rfl))) | (apply a_slice_viewlo; (focus (exact rfl)); (focus (exact rfl)); (focus (first | assumption | exact rfl | exact ix_lit _)); (focus (first | assumption | omega)); (focus (exact rfl))) | (apply a_convert_int; (focus (exact rfl)); (focus (exact rfl)); (focus (first | assumption | exact rfl)); (focus (exact rfl))) | (apply a_makeIface; (focus ((conv => lhs; whnf); first | done | rfl)); (focus (exact rfl)); (focus (exact rfl))) | (apply s_assert; (focus (exact rfl)); (focus (exact rfl)); (focus (exact rfl)); (focus (exact rfl))) | (apply a_len_map; (focus (exact rfl)); (focus ((repeat (first | exact MpIn.here (fun _ h => h) | exact MpIn.here (fun _ h => rangeK.map h) | apply MpIn.there)); first | done | fail)); (focus (exact rfl))) | (apply a_concat; (focus (exact rfl)); (focus (exact rfl)); (focus (omega)); (focus (exact rfl))) | (apply s_mapUpdate; (focus (exact rfl)); (focus ((conv => lhs; whnf); first | done | rfl)); (focus ((conv => lhs; whnf); first | done | rfl)); (focus ((repeat (first | exact Sel.here | apply Sel.there)))); (focus (exact rfl))) | (apply s_delete; (focus (exact rfl)); (focus ((conv => lhs; whnf); first | done | rfl)); (focus ((repeat (first | exact Sel.here | apply Sel.there)))); (focus (exact rfl))) | (apply a_indexAddr; (focus (exact rfl)); (focus (exact rfl)); (focus (first | assumption | exact rfl | exact ix_lit _)); (focus (first | assumption | omega)); (focus (exact rfl))) | (apply a_loadS; (focus (exact rfl)); (focus (exact rfl)); (focus ((repeat (first | exact VwIn.here Vw.row | exact VwIn.here Vw.bytes | (apply VwIn.here; assumption) | apply VwIn.there)); first | done | fail)); (focus (assumption)); (focus (first | ((simp only [List.take_succ_cons, List.take_zero, List.drop_succ_cons, List.drop_zero, List.nil_append, List.cons_append, List.append_assoc, List.append_nil, List.take_nil, List.drop_nil, dkC]); first | done | rfl) | exact rfl)); (focus (exact rfl))) | (apply a_loadSA; (focus (exact rfl)); (focus ((repeat (first | exact VwIn.here Vw.row | exact VwIn.here Vw.bytes | (apply VwIn.here; assumption) | apply VwIn.there)); first | done | fail)); (focus (assumption)); (focus (exact rfl)); (focus (exact rfl)); (focus (first | ((simp only [List.take_succ_cons, List.take_zero, List.drop_succ_cons, List.drop_zero, List.nil_append, List.cons_append, List.append_assoc, List.append_nil, List.take_nil, List.drop_nil, dkC]); first | done | rfl) | exact rfl)); (focus (exact rfl))) | (apply a_index_str; (focus (exact rfl)); (focus (exact rfl)); (focus (first | assumption | exact rfl | exact ix_lit _)); (focus (assumption)); (focus (exact rfl))) | (apply a_build_arr; (focus ((repeat (first | exact EvP.nil | (apply EvP.cons; (focus ((conv => lhs; whnf); first | done | rfl))))))); (focus (exact rfl)); (focus (exact rfl)); (focus (exact rfl)); (focus (exact rfl)); (focus (exact rfl))) | (apply a_index_arr; (focus (exact rfl)); (focus (exact rfl)); (focus (first | assumption | exact rfl | exact ix_lit _)); (focus (first | assumption | omega)); (focus (exact rfl)); (focus (first | with_reducible assumption | exact rfl)); (focus (exact rfl))) | (apply a_index_arrA; (focus (exact rfl)); (focus (exact rfl)); (focus (first | assumption | exact rfl | exact ix_lit _)); (focus (first | assumption | omega)); (focus (first | ((simp only [List.take_succ_cons, List.take_zero, List.drop_succ_cons, List.drop_zero, List.nil_append, List.cons_append, List.append_assoc, List.append_nil, List.take_nil, List.drop_nil, dkC]); first | done | rfl) | exact rfl)); (focus (exact rfl))) | (apply a_indexAddr_arr; (focus (exact rfl)); (focus (exact rfl)); (focus (first | assumption | exact rfl | exact ix_lit _)); (focus (first | assumption | omega)); (focus (exact rfl))) | (apply s_cap; (focus (exact rfl)); (focus (exact rfl)); (focus (exact rfl))) | (apply s_storeRow1; (focus (exact rfl)); (focus ((conv => lhs; whnf); first | done | rfl)); (focus (exact rfl)); (focus (first | exact rfl | (exact one_one (by assumption)) | with_reducible assumption)); (focus ((repeat (first | exact Sel.here | apply Sel.there)))); (focus (first | assumption | omega)); (focus (exact rfl))) | (apply s_bytes_string; (focus ((conv => lhs; whnf); first | done | rfl)); (focus (exact rfl)); (focus ((repeat (first | exact VwIn.here Vw.row | exact VwIn.here Vw.bytes | (apply VwIn.here; assumption) | apply VwIn.there)); first | done | fail)); (focus (exact rfl)); (focus (exact rfl))) | (apply s_store_nb; (focus (exact rfl)); (focus ((conv => lhs; whnf); first | done | rfl)); (focus (first | exact one_cells rfl | (apply one_cells; with_reducible assumption) | exact agg_cells _)); (focus ((repeat (first | exact Sel.here | apply Sel.there)))); (focus (first | exact rfl | (exact one_one (by assumption)) | with_reducible assumption)); (focus (exact rfl)); (focus (first | with_reducible assumption | exact rfl)); (focus (first | ((simp only [List.take_succ_cons, List.take_zero, List.drop_succ_cons, List.drop_zero, List.nil_append, List.cons_append, List.append_assoc, List.append_nil, List.take_nil, List.drop_nil, dkC]); first | done | rfl) | exact rfl)); (focus (first | exact (fun _ h => Keep.out (by (repeat (first | exact Keep.refl | apply Keep.drop)); first | done | fail) h) | exact (takePre (by (repeat (first | (apply Take.cons; (focus ((repeat (first | exact Sel.here | apply Sel.there)); first | done | fail))) | exact Take.nil)); first | done | fail))))) | (apply a_loadT; (focus (exact rfl)); (focus (exact rfl)); (focus (exact rfl)); (focus ((repeat (first | exact RdIn.here (Rd.pts _ _) | (apply RdIn.here; apply Rd.orig; assumption) | (apply RdIn.here; with_reducible assumption) | apply RdIn.there)))); (focus (first | with_reducible assumption | exact rfl)); (focus (exact rfl))) | (apply a_loadL; (focus (exact rfl)); (focus (exact rfl)); (focus (exact rfl)); (focus ((repeat (first | exact RdIn.here (Rd.pts _ _) | (apply RdIn.here; apply Rd.orig; assumption) | (apply RdIn.here; with_reducible assumption) | apply RdIn.there)))); (focus (first | with_reducible assumption | exact rfl)); (focus (exact rfl))) | (apply a_loadAL; (focus (exact rfl)); (focus (exact rfl)); (focus ((repeat (first | exact RdIn.here (Rd.pts _ _) | (apply RdIn.here; apply Rd.orig; assumption) | (apply RdIn.here; with_reducible assumption) | apply RdIn.there)))); (focus (exact rfl)); (focus (first | ((simp only [List.take_succ_cons, List.take_zero, List.drop_succ_cons, List.drop_zero, List.nil_append, List.cons_append, List.append_assoc, List.append_nil, List.take_nil, List.drop_nil, dkC]); first | done | rfl) | exact rfl)); (focus (exact rfl))) | (apply s_storeT; (focus (exact rfl)); (focus (exact rfl)); (focus ((conv => lhs; whnf); first | done | rfl)); (focus (first | exact one_cells rfl | (apply one_cells; with_reducible assumption) | exact agg_cells _)); (focus ((repeat (first | exact Sel.here | apply Sel.there)))); (focus (first | exact rfl | (exact one_one (by assumption)) | with_reducible assumption)); (focus (exact rfl)); (focus (first | with_reducible assumption | exact rfl)); (focus (first | ((simp only [List.take_succ_cons, List.take_zero, List.drop_succ_cons, List.drop_zero, List.nil_append, List.cons_append, List.append_assoc, List.append_nil, List.take_nil, List.drop_nil, dkC]); first | done | rfl) | exact rfl)); (focus (exact rfl)); (focus (first | exact (fun _ h => Keep.out (by (repeat (first | exact Keep.refl | apply Keep.drop)); first | done | fail) h) | exact (takePre (by (repeat (first | (apply Take.cons; (focus ((repeat (first | exact Sel.here | apply Sel.there)); first | done | fail))) | exact Take.nil)); first | done | fail))))) | (apply a_rem; (focus (exact rfl)); (focus (exact rfl)); (focus (first | assumption | decide | omega)); (focus (first | assumption | exact rfl)); (focus (exact rfl))) | (apply a_quo; (focus (exact rfl)); (focus (exact rfl)); (focus (first | assumption | decide | omega)); (focus (first | assumption | exact rfl)); (focus (exact rfl))) | (apply s_bytes_string_nb; (focus ((conv => lhs; whnf); first | done | rfl)); (focus (exact rfl)); (focus ((repeat (first | exact VwIn.here Vw.row | exact VwIn.here Vw.bytes | (apply VwIn.here; assumption) | apply VwIn.there)); first | done | fail)); (focus (exact rfl)); (focus (first | exact (fun _ h => Keep.out (by (repeat (first | exact Keep.refl | apply Keep.drop)); first | done | fail) h) | exact (takePre (by (repeat (first | (apply Take.cons; (focus ((repeat (first | exact Sel.here | apply Sel.there)); first | done | fail))) | exact Take.nil)); first | done | fail))))) | (apply s_storeBytes; (focus (exact rfl)); (focus (exact rfl)); (focus (assumption)); (focus ((repeat (first | exact Sel.here | apply Sel.there)))); (focus (first | assumption | omega)); (focus (exact rfl)))))); (repeat (first | (first | (apply ok_seq) | (apply ok_block) | (apply ok_region) | (apply ok_skip) | (apply ok_ret) | (apply ok_exit) | (apply ok_label) | (apply ok_scope; (focus (exact rfl))) | (apply ok_cond_true; (focus ((conv => lhs; whnf); first | done | with_reducible rfl | (refine congrArg Value.bool ?_; with_reducible assumption)))) | (apply ok_cond_false; (focus ((conv => lhs; whnf); first | done | with_reducible rfl | (refine congrArg Value.bool ?_; with_reducible assumption)))) | (apply opsL_nil) | (apply ok_draw []; (focus (kernel_rfl)); (focus ((conv => lhs; whnf); first | done | rfl)); (focus (decide +kernel)); (focus (exact (fun _ h => h))))) | (first | (apply cont_then) | (apply cont_scope) | (apply cont_scope_ret) | (apply cont_scope_exit) | (apply cont_back_ret) | (apply cont_back_exit) | (apply cont_meet_ret) | (apply cont_meet_exit) | (apply cont_then_ret) | (apply cont_then_exit) | (apply cont_block) | (apply cont_block_ret) | (apply cont_block_here; (focus (exact rfl))) | (apply cont_block_past; (focus (exact rfl)))) | (apply ops_guard_skip (b' := false); (focus (exact rfl)); (focus (exact rfl)); (focus ((conv => lhs; whnf); first | done | with_reducible rfl | (refine congrArg Value.bool ?_; with_reducible assumption))); (focus (exact rfl)); (focus (exact (fun _ e => by cases e))); (focus (exact (fun _ e => by cases e; rfl)))) | (apply ops_guard_skip (b' := true); (focus (exact rfl)); (focus (exact rfl)); (focus ((conv => lhs; whnf); first | done | with_reducible rfl | (refine congrArg Value.bool ?_; with_reducible assumption))); (focus (exact rfl)); (focus (exact (fun _ e => by cases e))); (focus (exact (fun _ e => by cases e; rfl)))) | (apply ops_guard_undef; (focus (exact rfl)); (focus (exact rfl)); (focus (exact rfl)); (focus (exact (fun _ e => by cases e))); (focus (exact (fun _ e => by cases e; rfl)))) | ((try (first | (apply ops_run) | (apply ops_guard_run; (focus (exact rfl)); (focus (exact rfl)); (focus ((conv => lhs; whnf); first | done | with_reducible rfl | (refine congrArg Value.bool ?_; with_reducible assumption)))))); (first | (apply a_move; (focus ((conv => lhs; whnf); first | done | rfl)); (focus (exact rfl))) | (apply a_assign; (focus ((conv => lhs; whnf); first | done | rfl)); (focus (exact rfl))) | (apply a_fieldAddr; (focus (exact rfl)); (focus (exact rfl)); (focus (first | ((simp only [slot_add, Nat.reduceAdd, Nat.zero_add, Nat.add_zero]); first | done | rfl) | rfl)); (focus (exact rfl))) | (apply a_load; (focus (exact rfl)); (focus (exact rfl)); (focus ((repeat (first | exact RdIn.here (Rd.pts _ _) | (apply RdIn.here; apply Rd.orig; assumption) | (apply RdIn.here; with_reducible assumption) | apply RdIn.there)))); (focus (first | with_reducible assumption | exact rfl)); (focus (exact rfl))) | (apply a_loadA; (focus (exact rfl)); (focus ((repeat (first | exact RdIn.here (Rd.pts _ _) | (apply RdIn.here; apply Rd.orig; assumption) | (apply RdIn.here; with_reducible assumption) | apply RdIn.there)))); (focus (exact rfl)); (focus (first | ((simp only [List.take_succ_cons, List.take_zero, List.drop_succ_cons, List.drop_zero, List.nil_append, List.cons_append, List.append_assoc, List.append_nil, List.take_nil, List.drop_nil, dkC]); first | done | rfl) | exact rfl)); (focus (exact rfl))) | (apply a_nilCheck; (focus (exact rfl)); (focus (exact rfl))) | (apply a_nilCheck_func; (focus (exact rfl)); (focus (exact rfl))) | (apply a_nilCheck_yield; (focus (exact rfl)); (focus (exact rfl))) | (apply a_extract; (focus (exact rfl)); (focus (exact rfl)); (focus (exact rfl))) | (apply a_pick_true; (focus ((conv => lhs; whnf); first | done | with_reducible rfl | (refine congrArg Value.bool ?_; with_reducible assumption))); (focus ((conv => lhs; whnf); first | done | rfl)); (focus (exact rfl))) | (apply a_pick_false; (focus ((conv => lhs; whnf); first | done | with_reducible rfl | (refine congrArg Value.bool ?_; with_reducible assumption))); (focus ((conv => lhs; whnf); first | done | rfl)); (focus (exact rfl))) | (apply a_len_str; (focus (exact rfl)); (focus (exact rfl))) | (apply a_len_slice; (focus (exact rfl)); (focus (exact rfl))) | (apply a_cmp; (focus (exact rfl)); (focus (exact rfl)); (focus (exact rfl)); (focus ((simp only [cmpB, strB, nilB, Option.isNone_some, Option.isNone_none, Bool.not_true, Bool.not_false, decide_true, decide_false, Int.reduceEq, Int.reduceLT, Int.reduceLE, dkC]); first | done | rfl)); (focus (exact rfl))) | (apply a_strcmp; (focus (exact rfl)); (focus (exact rfl)); (focus (exact rfl)); (focus ((simp only [cmpB, strB, nilB, Option.isNone_some, Option.isNone_none, Bool.not_true, Bool.not_false, decide_true, decide_false, Int.reduceEq, Int.reduceLT, Int.reduceLE, dkC]); first | done | rfl)); (focus (exact rfl))) | (apply a_arith64; (focus (exact rfl)); (focus (exact rfl)); (focus (exact rfl)); (focus ((simp only [arith]); first | done | rfl)); (focus (omega)); (focus (exact rfl))) | (apply a_arith; (focus (exact rfl)); (focus (exact rfl)); (focus (exact rfl)); (focus (exact rfl))) | (apply a_not; (focus (exact rfl)); (focus (first | (with_reducible exact Bool.not_true) | (with_reducible exact Bool.not_false) | exact Bool.not_true | exact Bool.not_false | exact rfl)); (focus (exact rfl))) | (apply a_neg; (focus (exact rfl)); (focus (exact rfl))) | (apply a_compl; (focus (exact rfl)); (focus (exact rfl))) | (apply a_ptr_nil; (focus (exact rfl)); (focus (exact rfl)); (focus (exact rfl)); (focus ((simp only [cmpB, strB, nilB, Option.isNone_some, Option.isNone_none, Bool.not_true, Bool.not_false, decide_true, decide_false, Int.reduceEq, Int.reduceLT, Int.reduceLE, dkC]); first | done | rfl)); (focus (exact rfl))) | (apply a_booleq; (focus (exact rfl)); (focus (exact rfl)); (focus (exact rfl)); (focus ((simp only [cmpB, strB, nilB, Option.isNone_some, Option.isNone_none, Bool.not_true, Bool.not_false, decide_true, decide_false, Int.reduceEq, Int.reduceLT, Int.reduceLE, dkC]); first | done | rfl)); (focus (exact rfl))) | (apply a_map_nil; (focus (exact rfl)); (focus (exact rfl)); (focus (exact rfl)); (focus ((simp only [cmpB, strB, nilB, Option.isNone_some, Option.isNone_none, Bool.not_true, Bool.not_false, decide_true, decide_false, Int.reduceEq, Int.reduceLT, Int.reduceLE, dkC]); first | done | rfl)); (focus (exact rfl))) | (apply a_func_nil; (focus (exact rfl)); (focus (exact rfl)); (focus (exact rfl)); (focus ((simp only [cmpB, strB, nilB, Option.isNone_some, Option.isNone_none, Bool.not_true, Bool.not_false, decide_true, decide_false, Int.reduceEq, Int.reduceLT, Int.reduceLE, dkC]); first | done | rfl)); (focus (exact rfl))) | (apply a_nilfunc_nil; (focus (exact rfl)); (focus (exact rfl)); (focus (exact rfl)); (focus ((simp only [cmpB, strB, nilB, Option.isNone_some, Option.isNone_none, Bool.not_true, Bool.not_false, decide_true, decide_false, Int.reduceEq, Int.reduceLT, Int.reduceLE, dkC]); first | done | rfl)); (focus (exact rfl))) | (apply a_slice_nil; (focus (exact rfl)); (focus (exact rfl)); (focus (exact rfl)); (focus ((simp only [cmpB, strB, nilB, Option.isNone_some, Option.isNone_none, Bool.not_true, Bool.not_false, decide_true, decide_false, Int.reduceEq, Int.reduceLT, Int.reduceLE, dkC]); first | done | rfl)); (focus (exact rfl))) | (apply a_build; (focus ((repeat (first | exact EvP.nil | (apply EvP.cons; (focus ((conv => lhs; whnf); first | done | rfl))))))); (focus (exact rfl)); (focus (first | ((simp only [Value.cells, List.take_succ_cons, List.take_zero, List.drop_succ_cons, List.drop_zero, List.nil_append, List.cons_append, List.append_assoc, List.append_nil, List.take_nil, List.drop_nil, Nat.reduceAdd, Nat.zero_add, dkC]); first | done | rfl) | exact rfl)); (focus (exact rfl))) | (apply a_field1; (focus (exact rfl)); (focus (exact rfl)); (focus (exact rfl))) | (apply a_fieldA; (focus (exact rfl)); (focus (first | ((simp only [List.take_succ_cons, List.take_zero, List.drop_succ_cons, List.drop_zero, List.nil_append, List.cons_append, List.append_assoc, List.append_nil, List.take_nil, List.drop_nil, dkC]); first | done | rfl) | exact rfl)); (focus (exact rfl))) | (apply a_bits; (focus (exact rfl)); (focus (exact rfl)); (focus (exact rfl)); (focus (exact rfl))) | (apply a_shift; (focus (exact rfl)); (focus (exact rfl)); (focus (first | omega | assumption | decide)); (focus (exact rfl)); (focus (exact rfl))) | (apply s_store; (focus (exact rfl)); (focus ((conv => lhs; whnf); first | done | rfl)); (focus (first | exact one_cells rfl | (apply one_cells; with_reducible assumption) | exact agg_cells _)); (focus ((repeat (first | exact Sel.here | apply Sel.there)))); (focus (first | exact rfl | (exact one_one (by assumption)) | with_reducible assumption)); (focus (exact rfl)); (focus (first | with_reducible assumption | exact rfl)); (focus (first | ((simp only [List.take_succ_cons, List.take_zero, List.drop_succ_cons, List.drop_zero, List.nil_append, List.cons_append, List.append_assoc, List.append_nil, List.take_nil, List.drop_nil, dkC]); first | done | rfl) | exact rfl)); (focus (exact rfl))) | (apply a_makeFunc; (focus ((repeat (first | exact EvA.nil | (apply EvA.cons; (focus ((conv => lhs; whnf); first | done | rfl))))))); (focus ((repeat (first | exact EvA.nil | (apply EvA.cons; (focus ((conv => lhs; whnf); first | done | rfl))))))); (focus (exact rfl))) | (apply a_ptr_eq; (focus (exact rfl)); (focus (exact rfl)); (focus (exact rfl)); (focus (exact rfl)); (focus ((repeat (first | exact RdIn.here (Rd.pts _ _) | (apply RdIn.here; apply Rd.orig; assumption) | (apply RdIn.here; with_reducible assumption) | apply RdIn.there)))); (focus ((repeat (first | exact RdIn.here (Rd.pts _ _) | (apply RdIn.here; apply Rd.orig; assumption) | (apply RdIn.here; with_reducible assumption) | apply RdIn.there)))); (focus (first | exact eql_same | exact neq_same | ((first | refine eql_ne ?_ | refine neq_ne ?_); simp [*]; first | done | fail) | exact rfl)); (focus (exact rfl))) | (apply a_structeq; (focus (exact rfl)); (focus (exact rfl)); (focus (exact rfl)); (focus (exact rfl)); (focus (exact rfl)); (focus (exact rfl))) | (apply a_len_view; (focus ((conv => lhs; whnf); first | done | rfl)); (focus ((repeat (first | exact VwIn.here Vw.row | exact VwIn.here Vw.bytes | (apply VwIn.here; assumption) | apply VwIn.there)); first | done | fail)); (focus (exact rfl))) | (apply a_lookup; (focus (exact rfl)); (focus ((conv => lhs; whnf); first | done | rfl)); (focus ((repeat (first | exact MpIn.here (fun _ h => h) | exact MpIn.here (fun _ h => rangeK.map h) | apply MpIn.there)); first | done | fail)); (focus (first | with_reducible assumption | exact rfl)); (focus ((simp only [lookOf, Option.getD_some, Option.getD_none, Option.isSome_some, Option.isSome_none, if_true, if_false, Bool.false_eq_true, dkC]); first | done | rfl)); (focus (exact rfl))) | (apply a_lookup_nil; (focus (exact rfl)); (focus ((conv => lhs; whnf); first | done | rfl)); (focus ((simp only [lookOf, Option.getD_some, Option.getD_none, Option.isSome_some, Option.isSome_none, if_true, if_false, Bool.false_eq_true, dkC]); first | done | rfl)); (focus (exact rfl))) | (apply a_entry; (focus (exact rfl)); (focus ((repeat (first | exact CurIn.here | apply CurIn.there)); first | done | fail)); (focus (exact rfl))) | (apply a_max; (focus (exact rfl)); (focus (exact rfl)); (focus (exact rfl))) | (apply a_min; (focus (exact rfl)); (focus (exact rfl)); (focus (exact rfl))) | (apply a_slice_lo; (focus (exact rfl)); (focus (exact rfl)); (focus (first | assumption | omega)); (focus (exact rfl))) | (apply a_slice_hi; (focus (exact rfl)); (focus (exact rfl)); (focus (first | assumption | omega)); (focus (exact rfl))) | (apply a_slice_both; (focus (exact rfl)); (focus (exact rfl)); (focus (exact rfl)); (focus (first | assumption | omega)); (focus (exact rfl))) | (apply a_slice_viewlo; (focus (exact rfl)); (focus (exact rfl)); (focus (first | assumption | exact rfl | exact ix_lit _)); (focus (first | assumption | omega)); (focus (exact rfl))) | (apply a_convert_int; (focus (exact rfl)); (focus (exact rfl)); (focus (first | assumption | exact rfl)); (focus (exact rfl))) | (apply a_makeIface; (focus ((conv => lhs; whnf); first | done | rfl)); (focus (exact rfl)); (focus (exact rfl))) | (apply s_assert; (focus (exact rfl)); (focus (exact rfl)); (focus (exact rfl)); (focus (exact rfl))) | (apply a_len_map; (focus (exact rfl)); (focus ((repeat (first | exact MpIn.here (fun _ h => h) | exact MpIn.here (fun _ h => rangeK.map h) | apply MpIn.there)); first | done | fail)); (focus (exact rfl))) | (apply a_concat; (focus (exact rfl)); (focus (exact rfl)); (focus (omega)); (focus (exact rfl))) | (apply s_mapUpdate; (focus (exact rfl)); (focus ((conv => lhs; whnf); first | done | rfl)); (focus ((conv => lhs; whnf); first | done | rfl)); (focus ((repeat (first | exact Sel.here | apply Sel.there)))); (focus (exact rfl))) | (apply s_delete; (focus (exact rfl)); (focus ((conv => lhs; whnf); first | done | rfl)); (focus ((repeat (first | exact Sel.here | apply Sel.there)))); (focus (exact rfl))) | (apply a_indexAddr; (focus (exact rfl)); (focus (exact rfl)); (focus (first | assumption | exact rfl | exact ix_lit _)); (focus (first | assumption | omega)); (focus (exact rfl))) | (apply a_loadS; (focus (exact rfl)); (focus (exact rfl)); (focus ((repeat (first | exact VwIn.here Vw.row | exact VwIn.here Vw.bytes | (apply VwIn.here; assumption) | apply VwIn.there)); first | done | fail)); (focus (assumption)); (focus (first | ((simp only [List.take_succ_cons, List.take_zero, List.drop_succ_cons, List.drop_zero, List.nil_append, List.cons_append, List.append_assoc, List.append_nil, List.take_nil, List.drop_nil, dkC]); first | done | rfl) | exact rfl)); (focus (exact rfl))) | (apply a_loadSA; (focus (exact rfl)); (focus ((repeat (first | exact VwIn.here Vw.row | exact VwIn.here Vw.bytes | (apply VwIn.here; assumption) | apply VwIn.there)); first | done | fail)); (focus (assumption)); (focus (exact rfl)); (focus (exact rfl)); (focus (first | ((simp only [List.take_succ_cons, List.take_zero, List.drop_succ_cons, List.drop_zero, List.nil_append, List.cons_append, List.append_assoc, List.append_nil, List.take_nil, List.drop_nil, dkC]); first | done | rfl) | exact rfl)); (focus (exact rfl))) | (apply a_index_str; (focus (exact rfl)); (focus (exact rfl)); (focus (first | assumption | exact rfl | exact ix_lit _)); (focus (assumption)); (focus (exact rfl))) | (apply a_build_arr; (focus ((repeat (first | exact EvP.nil | (apply EvP.cons; (focus ((conv => lhs; whnf); first | done | rfl))))))); (focus (exact rfl)); (focus (exact rfl)); (focus (exact rfl)); (focus (exact rfl)); (focus (exact rfl))) | (apply a_index_arr; (focus (exact rfl)); (focus (exact rfl)); (focus (first | assumption | exact rfl | exact ix_lit _)); (focus (first | assumption | omega)); (focus (exact rfl)); (focus (first | with_reducible assumption | exact rfl)); (focus (exact rfl))) | (apply a_index_arrA; (focus (exact rfl)); (focus (exact rfl)); (focus (first | assumption | exact rfl | exact ix_lit _)); (focus (first | assumption | omega)); (focus (first | ((simp only [List.take_succ_cons, List.take_zero, List.drop_succ_cons, List.drop_zero, List.nil_append, List.cons_append, List.append_assoc, List.append_nil, List.take_nil, List.drop_nil, dkC]); first | done | rfl) | exact rfl)); (focus (exact rfl))) | (apply a_indexAddr_arr; (focus (exact rfl)); (focus (exact rfl)); (focus (first | assumption | exact rfl | exact ix_lit _)); (focus (first | assumption | omega)); (focus (exact rfl))) | (apply s_cap; (focus (exact rfl)); (focus (exact rfl)); (focus (exact rfl))) | (apply s_storeRow1; (focus (exact rfl)); (focus ((conv => lhs; whnf); first | done | rfl)); (focus (exact rfl)); (focus (first | exact rfl | (exact one_one (by assumption)) | with_reducible assumption)); (focus ((repeat (first | exact Sel.here | apply Sel.there)))); (focus (first | assumption | omega)); (focus (exact rfl))) | (apply s_bytes_string; (focus ((conv => lhs; whnf); first | done | rfl)); (focus (exact rfl)); (focus ((repeat (first | exact VwIn.here Vw.row | exact VwIn.here Vw.bytes | (apply VwIn.here; assumption) | apply VwIn.there)); first | done | fail)); (focus (exact rfl)); (focus (exact rfl))) | (apply s_store_nb; (focus (exact rfl)); (focus ((conv => lhs; whnf); first | done | rfl)); (focus (first | exact one_cells rfl | (apply one_cells; with_reducible assumption) | exact agg_cells _)); (focus ((repeat (first | exact Sel.here | apply Sel.there)))); (focus (first | exact rfl | (exact one_one (by assumption)) | with_reducible assumption)); (focus (exact rfl)); (focus (first | with_reducible assumption | exact rfl)); (focus (first | ((simp only [List.take_succ_cons, List.take_zero, List.drop_succ_cons, List.drop_zero, List.nil_append, List.cons_append, List.append_assoc, List.append_nil, List.take_nil, List.drop_nil, dkC]); first | done | rfl) | exact rfl)); (focus (first | exact (fun _ h => Keep.out (by (repeat (first | exact Keep.refl | apply Keep.drop)); first | done | fail) h) | exact (takePre (by (repeat (first | (apply Take.cons; (focus ((repeat (first | exact Sel.here | apply Sel.there)); first | done | fail))) | exact Take.nil)); first | done | fail))))) | (apply a_loadT; (focus (exact rfl)); (focus (exact rfl)); (focus (exact rfl)); (focus ((repeat (first | exact RdIn.here (Rd.pts _ _) | (apply RdIn.here; apply Rd.orig; assumption) | (apply RdIn.here; with_reducible assumption) | apply RdIn.there)))); (focus (first | with_reducible assumption | exact rfl)); (focus (exact rfl))) | (apply a_loadL; (focus (exact rfl)); (focus (exact rfl)); (focus (exact rfl)); (focus ((repeat (first | exact RdIn.here (Rd.pts _ _) | (apply RdIn.here; apply Rd.orig; assumption) | (apply RdIn.here; with_reducible assumption) | apply RdIn.there)))); (focus (first | with_reducible assumption | exact rfl)); (focus (exact rfl))) | (apply a_loadAL; (focus (exact rfl)); (focus (exact rfl)); (focus ((repeat (first | exact RdIn.here (Rd.pts _ _) | (apply RdIn.here; apply Rd.orig; assumption) | (apply RdIn.here; with_reducible assumption) | apply RdIn.there)))); (focus (exact rfl)); (focus (first | ((simp only [List.take_succ_cons, List.take_zero, List.drop_succ_cons, List.drop_zero, List.nil_append, List.cons_append, List.append_assoc, List.append_nil, List.take_nil, List.drop_nil, dkC]); first | done | rfl) | exact rfl)); (focus (exact rfl))) | (apply s_storeT; (focus (exact rfl)); (focus (exact rfl)); (focus ((conv => lhs; whnf); first | done | rfl)); (focus (first | exact one_cells rfl | (apply one_cells; with_reducible assumption) | exact agg_cells _)); (focus ((repeat (first | exact Sel.here | apply Sel.there)))); (focus (first | exact rfl | (exact one_one (by assumption)) | with_reducible assumption)); (focus (exact rfl)); (focus (first | with_reducible assumption | exact rfl)); (focus (first | ((simp only [List.take_succ_cons, List.take_zero, List.drop_succ_cons, List.drop_zero, List.nil_append, List.cons_append, List.append_assoc, List.append_nil, List.take_nil, List.drop_nil, dkC]); first | done | rfl) | exact rfl)); (focus (exact rfl)); (focus (first | exact (fun _ h => Keep.out (by (repeat (first | exact Keep.refl | apply Keep.drop)); first | done | fail) h) | exact (takePre (by (repeat (first | (apply Take.cons; (focus ((repeat (first | exact Sel.here | apply Sel.there)); first | done | fail))) | exact Take.nil)); first | done | fail))))) | (apply a_rem; (focus (exact rfl)); (focus (exact rfl)); (focus (first | assumption | decide | omega)); (focus (first | assumption | exact rfl)); (focus (exact rfl))) | (apply a_quo; (focus (exact rfl)); (focus (exact rfl)); (focus (first | assumption | decide | omega)); (focus (first | assumption | exact rfl)); (focus (exact rfl))) | (apply s_bytes_string_nb; (focus ((conv => lhs; whnf); first | done | rfl)); (focus (exact rfl)); (focus ((repeat (first | exact VwIn.here Vw.row | exact VwIn.here Vw.bytes | (apply VwIn.here; assumption) | apply VwIn.there)); first | done | fail)); (focus (exact rfl)); (focus (first | exact (fun _ h => Keep.out (by (repeat (first | exact Keep.refl | apply Keep.drop)); first | done | fail) h) | exact (takePre (by (repeat (first | (apply Take.cons; (focus ((repeat (first | exact Sel.here | apply Sel.there)); first | done | fail))) | exact Take.nil)); first | done | fail))))) | (apply s_storeBytes; (focus (exact rfl)); (focus (exact rfl)); (focus (assumption)); (focus ((repeat (first | exact Sel.here | apply Sel.there)))); (focus (first | assumption | omega)); (focus (exact rfl))))))); (try (focus (first | ((try (first | (apply ops_run) | (apply ops_guard_run; (focus (exact rfl)); (focus (exact rfl)); (focus ((conv => lhs; whnf); first | done | with_reducible rfl | (refine congrArg Value.bool ?_; with_reducible assumption)))))); (first | (apply s_box; (focus ((conv => lhs; whnf); first | done | rfl)); (focus (first | exact one_cells rfl | (apply one_cells; with_reducible assumption) | exact agg_cells _)); (focus (exact rfl)); (focus (exact rfl))) | (apply s_alloc; (focus (first | exact one_cells rfl | (apply one_cells; with_reducible assumption) | exact agg_cells _)); (focus (exact rfl)); (focus (exact rfl))) | (apply s_append; (focus (exact rfl)); (focus ((conv => lhs; whnf); first | done | rfl)); (focus ((conv => lhs; whnf); first | done | rfl)); (focus ((repeat (first | exact Sel.here | apply Sel.there)))); (focus ((repeat (first | exact VwIn.here Vw.row | exact VwIn.here Vw.bytes | (apply VwIn.here; assumption) | apply VwIn.there)); first | done | fail)); (focus (first | omega | ((simp only [List.length_map, List.length_cons, List.length_nil, List.length_append, dkC]); omega))); (focus (first | omega | ((simp only [List.length_map, List.length_cons, List.length_nil, List.length_append, dkC]); omega))); (focus (exact rfl)); (focus (exact rfl))) | (apply s_append_str; (focus (exact rfl)); (focus ((conv => lhs; whnf); first | done | rfl)); (focus ((conv => lhs; whnf); first | done | rfl)); (focus ((repeat (first | exact Sel.here | apply Sel.there)))); (focus (first | omega | ((simp only [List.length_map, List.length_cons, List.length_nil, List.length_append, dkC]); omega))); (focus (first | omega | ((simp only [List.length_map, List.length_cons, List.length_nil, List.length_append, dkC]); omega))); (focus (exact rfl)); (focus (exact rfl))) | (apply s_buildSlice; (focus ((repeat (first | exact EvP.nil | (apply EvP.cons; (focus ((conv => lhs; whnf); first | done | rfl))))))); (focus ((simp only [List.map_cons, List.map_nil, agg_cells]); first | done | rfl)); (focus (exact rfl)); (focus (exact rfl)); (focus (first | exact rfl | with_reducible assumption)); (focus (exact rfl)); (focus (exact rfl)); (focus (exact rfl)); (focus (exact rfl))) | (apply a_slice_view; (focus (exact rfl)); (focus (exact rfl)); (focus (first | assumption | exact rfl | exact ix_lit _)); (focus (first | assumption | omega)); (focus (first | with_reducible assumption | (intro _ e; cases e; done) | (intro _ e; cases e; rfl))); (focus (exact rfl))) | (apply s_makeMap; (focus (exact rfl)); (focus (exact rfl))) | (apply s_range; (focus (exact rfl)); (focus ((repeat (first | exact Sel.here | apply Sel.there)))); (focus (exact rfl)); (focus (exact rfl))) | (apply s_convert_bytes; (focus (exact rfl)); (focus (exact rfl)); (focus (exact rfl)); (focus (exact rfl))) | (apply s_makeSlice1; (focus (exact rfl)); (focus (exact rfl)); (focus (first | assumption | exact rfl | exact ix_lit _)); (focus (first | omega | ((simp only [List.length_map, List.length_cons, List.length_nil, List.length_append, dkC]); omega))); (focus (exact rfl)); (focus (first | omega | ((simp only [List.length_map, List.length_cons, List.length_nil, List.length_append, dkC]); omega))); (focus (exact rfl)); (focus (exact rfl))) | (apply s_buildSlice_nb; (focus ((repeat (first | exact EvP.nil | (apply EvP.cons; (focus ((conv => lhs; whnf); first | done | rfl))))))); (focus ((simp only [List.map_cons, List.map_nil, agg_cells]); first | done | rfl)); (focus (exact rfl)); (focus (exact rfl)); (focus (first | exact rfl | with_reducible assumption)); (focus (exact rfl)); (focus (exact rfl)); (focus (exact rfl)); (focus (first | exact (fun _ h => Keep.out (by (repeat (first | exact Keep.refl | apply Keep.drop)); first | done | fail) h) | exact (takePre (by (repeat (first | (apply Take.cons; (focus ((repeat (first | exact Sel.here | apply Sel.there)); first | done | fail))) | exact Take.nil)); first | done | fail))))) | (apply s_box_nb; (focus ((conv => lhs; whnf); first | done | rfl)); (focus (first | exact one_cells rfl | (apply one_cells; with_reducible assumption) | exact agg_cells _)); (focus (exact rfl)); (focus (first | exact (fun _ h => Keep.out (by (repeat (first | exact Keep.refl | apply Keep.drop)); first | done | fail) h) | exact (takePre (by (repeat (first | (apply Take.cons; (focus ((repeat (first | exact Sel.here | apply Sel.there)); first | done | fail))) | exact Take.nil)); first | done | fail))))) | (apply s_alloc_nb; (focus (first | exact one_cells rfl | (apply one_cells; with_reducible assumption) | exact agg_cells _)); (focus (exact rfl)); (focus (first | exact (fun _ h => Keep.out (by (repeat (first | exact Keep.refl | apply Keep.drop)); first | done | fail) h) | exact (takePre (by (repeat (first | (apply Take.cons; (focus ((repeat (first | exact Sel.here | apply Sel.there)); first | done | fail))) | exact Take.nil)); first | done | fail))))) | (apply s_append_nb; (focus (exact rfl)); (focus ((conv => lhs; whnf); first | done | rfl)); (focus ((conv => lhs; whnf); first | done | rfl)); (focus ((repeat (first | exact Sel.here | apply Sel.there)))); (focus ((repeat (first | exact VwIn.here Vw.row | exact VwIn.here Vw.bytes | (apply VwIn.here; assumption) | apply VwIn.there)); first | done | fail)); (focus (first | omega | ((simp only [List.length_map, List.length_cons, List.length_nil, List.length_append, dkC]); omega))); (focus (first | omega | ((simp only [List.length_map, List.length_cons, List.length_nil, List.length_append, dkC]); omega))); (focus (exact rfl)); (focus (first | exact (fun _ h => Keep.out (by (repeat (first | exact Keep.refl | apply Keep.drop)); first | done | fail) h) | exact (takePre (by (repeat (first | (apply Take.cons; (focus ((repeat (first | exact Sel.here | apply Sel.there)); first | done | fail))) | exact Take.nil)); first | done | fail))))))) | ((apply ops_guard_run; (focus (exact rfl)); (focus (exact rfl)); (focus ((conv => lhs; whnf); first | done | with_reducible rfl | (refine congrArg Value.bool ?_; with_reducible assumption)))))))); exact k.out) | ((first | ((try (first | (apply ops_run) | (apply ops_guard_run; (focus (exact rfl)); (focus (exact rfl)); (focus ((conv => lhs; whnf); first | done | with_reducible rfl | (refine congrArg Value.bool ?_; with_reducible assumption)))))); (first | (apply s_box; (focus ((conv => lhs; whnf); first | done | rfl)); (focus (first | exact one_cells rfl | (apply one_cells; with_reducible assumption) | exact agg_cells _)); (focus (exact rfl)); (focus (exact rfl))) | (apply s_alloc; (focus (first | exact one_cells rfl | (apply one_cells; with_reducible assumption) | exact agg_cells _)); (focus (exact rfl)); (focus (exact rfl))) | (apply s_append; (focus (exact rfl)); (focus ((conv => lhs; whnf); first | done | rfl)); (focus ((conv => lhs; whnf); first | done | rfl)); (focus ((repeat (first | exact Sel.here | apply Sel.there)))); (focus ((repeat (first | exact VwIn.here Vw.row | exact VwIn.here Vw.bytes | (apply VwIn.here; assumption) | apply VwIn.there)); first | done | fail)); (focus (first | omega | ((simp only [List.length_map, List.length_cons, List.length_nil, List.length_append, dkC]); omega))); (focus (first | omega | ((simp only [List.length_map, List.length_cons, List.length_nil, List.length_append, dkC]); omega))); (focus (exact rfl)); (focus (exact rfl))) | (apply s_append_str; (focus (exact rfl)); (focus ((conv => lhs; whnf); first | done | rfl)); (focus ((conv => lhs; whnf); first | done | rfl)); (focus ((repeat (first | exact Sel.here | apply Sel.there)))); (focus (first | omega | ((simp only [List.length_map, List.length_cons, List.length_nil, List.length_append, dkC]); omega))); (focus (first | omega | ((simp only [List.length_map, List.length_cons, List.length_nil, List.length_append, dkC]); omega))); (focus (exact rfl)); (focus (exact rfl))) | (apply s_buildSlice; (focus ((repeat (first | exact EvP.nil | (apply EvP.cons; (focus ((conv => lhs; whnf); first | done | rfl))))))); (focus ((simp only [List.map_cons, List.map_nil, agg_cells]); first | done | rfl)); (focus (exact rfl)); (focus (exact rfl)); (focus (first | exact rfl | with_reducible assumption)); (focus (exact rfl)); (focus (exact rfl)); (focus (exact rfl)); (focus (exact rfl))) | (apply a_slice_view; (focus (exact rfl)); (focus (exact rfl)); (focus (first | assumption | exact rfl | exact ix_lit _)); (focus (first | assumption | omega)); (focus (first | with_reducible assumption | (intro _ e; cases e; done) | (intro _ e; cases e; rfl))); (focus (exact rfl))) | (apply s_makeMap; (focus (exact rfl)); (focus (exact rfl))) | (apply s_range; (focus (exact rfl)); (focus ((repeat (first | exact Sel.here | apply Sel.there)))); (focus (exact rfl)); (focus (exact rfl))) | (apply s_convert_bytes; (focus (exact rfl)); (focus (exact rfl)); (focus (exact rfl)); (focus (exact rfl))) | (apply s_makeSlice1; (focus (exact rfl)); (focus (exact rfl)); (focus (first | assumption | exact rfl | exact ix_lit _)); (focus (first | omega | ((simp only [List.length_map, List.length_cons, List.length_nil, List.length_append, dkC]); omega))); (focus (exact rfl)); (focus (first | omega | ((simp only [List.length_map, List.length_cons, List.length_nil, List.length_append, dkC]); omega))); (focus (exact rfl)); (focus (exact rfl))) | (apply s_buildSlice_nb; (focus ((repeat (first | exact EvP.nil | (apply EvP.cons; (focus ((conv => lhs; whnf); first | done | rfl))))))); (focus ((simp only [List.map_cons, List.map_nil, agg_cells]); first | done | rfl)); (focus (exact rfl)); (focus (exact rfl)); (focus (first | exact rfl | with_reducible assumption)); (focus (exact rfl)); (focus (exact rfl)); (focus (exact rfl)); (focus (first | exact (fun _ h => Keep.out (by (repeat (first | exact Keep.refl | apply Keep.drop)); first | done | fail) h) | exact (takePre (by (repeat (first | (apply Take.cons; (focus ((repeat (first | exact Sel.here | apply Sel.there)); first | done | fail))) | exact Take.nil)); first | done | fail))))) | (apply s_box_nb; (focus ((conv => lhs; whnf); first | done | rfl)); (focus (first | exact one_cells rfl | (apply one_cells; with_reducible assumption) | exact agg_cells _)); (focus (exact rfl)); (focus (first | exact (fun _ h => Keep.out (by (repeat (first | exact Keep.refl | apply Keep.drop)); first | done | fail) h) | exact (takePre (by (repeat (first | (apply Take.cons; (focus ((repeat (first | exact Sel.here | apply Sel.there)); first | done | fail))) | exact Take.nil)); first | done | fail))))) | (apply s_alloc_nb; (focus (first | exact one_cells rfl | (apply one_cells; with_reducible assumption) | exact agg_cells _)); (focus (exact rfl)); (focus (first | exact (fun _ h => Keep.out (by (repeat (first | exact Keep.refl | apply Keep.drop)); first | done | fail) h) | exact (takePre (by (repeat (first | (apply Take.cons; (focus ((repeat (first | exact Sel.here | apply Sel.there)); first | done | fail))) | exact Take.nil)); first | done | fail))))) | (apply s_append_nb; (focus (exact rfl)); (focus ((conv => lhs; whnf); first | done | rfl)); (focus ((conv => lhs; whnf); first | done | rfl)); (focus ((repeat (first | exact Sel.here | apply Sel.there)))); (focus ((repeat (first | exact VwIn.here Vw.row | exact VwIn.here Vw.bytes | (apply VwIn.here; assumption) | apply VwIn.there)); first | done | fail)); (focus (first | omega | ((simp only [List.length_map, List.length_cons, List.length_nil, List.length_append, dkC]); omega))); (focus (first | omega | ((simp only [List.length_map, List.length_cons, List.length_nil, List.length_append, dkC]); omega))); (focus (exact rfl)); (focus (first | exact (fun _ h => Keep.out (by (repeat (first | exact Keep.refl | apply Keep.drop)); first | done | fail) h) | exact (takePre (by (repeat (first | (apply Take.cons; (focus ((repeat (first | exact Sel.here | apply Sel.there)); first | done | fail))) | exact Take.nil)); first | done | fail))))))) | ((apply ops_guard_run; (focus (exact rfl)); (focus (exact rfl)); (focus ((conv => lhs; whnf); first | done | with_reducible rfl | (refine congrArg Value.bool ?_; with_reducible assumption)))))); exact k.out)) : G := h ⟨k⟩
theorem gs_DkF {G G1 G2 : Prop} (k1 : G1) (k2 : G2) (h : Hid G1 → Hid G2 → G := by intro k1 k2; apply ops_guard_split; (focus (exact rfl)); (focus (exact rfl)); (focus (exact rfl)); (focus (exact (fun _ e => by cases e))); (focus (exact (fun _ e => by cases e; rfl))); exact k1.out; exact k2.out) : G := h ⟨k1⟩ ⟨k2⟩
theorem gc_DkF {G G1 G2 : Prop} (k1 : G1) (k2 : G2) (h : Hid G1 → Hid G2 → G := by intro k1 k2; apply ok_cond; (focus (exact rfl)); exact k1.out; exact k2.out) : G := h ⟨k1⟩ ⟨k2⟩
theorem cl_DkF {P : Program} {f : FuncId} {args : List Value} {pre : List HProp} {Y : Type} {φ : Y → Prop} {ret : Y → Value} {post : Y → List HProp} (hs : FSpec P f args pre Y φ ret post) {G : Prop} {K : Y → Prop} (k : ∀ y, φ y → K y) (h : FSpec P f args pre Y φ ret post → (∀ y, φ y → K y) → G := by intro hs k; (try (first | (apply ops_run) | (apply ops_guard_run; (focus (exact rfl)); (focus (exact rfl)); (focus ((conv => lhs; whnf); first | done | with_reducible rfl | (refine congrArg Value.bool ?_; with_reducible assumption)))))); first | (apply s_call; (focus ((repeat (first | exact EvA.nil | (apply EvA.cons; (focus ((conv => lhs; whnf); first | done | rfl))))))); (focus (exact hs)); (focus ((repeat (first | (apply Take.cons; (focus ((repeat (first | exact Sel.here | apply Sel.there)); first | done | fail))) | exact Take.nil)); first | done | fail)); (focus (exact rfl)); (focus (exact rfl)); exact k) | (apply s_call_none; (focus ((repeat (first | exact EvA.nil | (apply EvA.cons; (focus ((conv => lhs; whnf); first | done | rfl))))))); (focus (exact hs)); (focus ((repeat (first | (apply Take.cons; (focus ((repeat (first | exact Sel.here | apply Sel.there)); first | done | fail))) | exact Take.nil)); first | done | fail)); (focus (exact rfl)); exact k)) : G := h hs k
theorem clV_DkF {P : Program} {fv : Value} {args : List Value} {pre : List HProp} {Y : Type} {φ : Y → Prop} {ret : Y → Value} {post : Y → List HProp} (hs : VSpec P fv args pre Y φ ret post) {G : Prop} {K : Y → Prop} (k : ∀ y, φ y → K y) (h : VSpec P fv args pre Y φ ret post → (∀ y, φ y → K y) → G := by intro hs k; (try (first | (apply ops_run) | (apply ops_guard_run; (focus (exact rfl)); (focus (exact rfl)); (focus ((conv => lhs; whnf); first | done | with_reducible rfl | (refine congrArg Value.bool ?_; with_reducible assumption)))))); first | (apply s_callv; (focus ((conv => lhs; whnf); first | done | rfl)); (focus ((repeat (first | exact EvA.nil | (apply EvA.cons; (focus ((conv => lhs; whnf); first | done | rfl))))))); (focus (exact hs)); (focus ((repeat (first | (apply Take.cons; (focus ((repeat (first | exact Sel.here | apply Sel.there)); first | done | fail))) | exact Take.nil)); first | done | fail)); (focus (exact rfl)); (focus (exact rfl)); exact k) | (apply s_callv_none; (focus ((conv => lhs; whnf); first | done | rfl)); (focus ((repeat (first | exact EvA.nil | (apply EvA.cons; (focus ((conv => lhs; whnf); first | done | rfl))))))); (focus (exact hs)); (focus ((repeat (first | (apply Take.cons; (focus ((repeat (first | exact Sel.here | apply Sel.there)); first | done | fail))) | exact Take.nil)); first | done | fail)); (focus (exact rfl)); exact k)) : G := h hs k
theorem rt_DkF {P : Program} {w0 : World} {ρ : Regs} {L : List HProp} {nt : Nat} {cv : List TypeId} {r : Option Nat} {fn : Func} {Y : Type} {φ : Y → Prop} {ret : Y → Value} {post : Y → List HProp} {R : List HProp} {vs : List Value} {rs : Array ResultVar} {e : Exit} {y : Y} (hrs : fn.results = rs) (he : e = .ret ∨ e = .normal := by first | exact .inl rfl | exact .inr rfl) (hr : Res P w0 ρ L rs.toList vs := by (repeat (first | (apply res_tmp; (focus ((conv => lhs; whnf); first | done | rfl))) | (apply res_cell; (focus (exact rfl)); (focus (exact rfl)); (focus ((repeat (first | exact RdIn.here (Rd.pts _ _) | (apply RdIn.here; apply Rd.orig; assumption) | (apply RdIn.here; with_reducible assumption) | apply RdIn.there)); first | done | fail)); (focus (exact rfl))) | (apply res_cellA; (focus (exact rfl)); (focus ((repeat (first | exact RdIn.here (Rd.pts _ _) | (apply RdIn.here; apply Rd.orig; assumption) | (apply RdIn.here; with_reducible assumption) | apply RdIn.there)); first | done | fail)); (focus (exact rfl)); (focus (first | ((simp only [List.take_succ_cons, List.take_zero, List.drop_succ_cons, List.drop_zero, List.nil_append, List.cons_append, List.append_assoc, List.append_nil, List.take_nil, List.drop_nil, dkC]); first | done | rfl) | exact rfl))) | exact res_nil))) (hp : ∀ h, SatL L h → SatL (post y ++ R) h := by exact (fun _ h => ent (by (repeat (first | (apply Take.cons; (focus ((repeat (first | exact Sel.here | apply Sel.there)); first | done | fail))) | exact Take.nil))) (by (repeat (first | exact Keep.refl | apply Keep.drop))) h)) (hv : retOf vs = ret y) (hφ : φ y) : Cont ⟨P, r, nt, w0, cv⟩ (Fin ⟨P, r, nt, w0, cv⟩ fn Y φ ret post R) e [] ρ L := by rcases he with rfl | rfl; exact cont_ret hrs hr hp hv hφ; exact cont_end hrs hr hp hv hφ

theorem sats_false {L : List HProp} {h : Frag} (s : SatL ((fun _ => False) :: L) h) : False := by
  obtain ⟨_, _, _, _, _, hf, _⟩ := s
  exact hf
theorem whole_v (c : Cl) (v0 v1 : Value) (m : Nat) (F : FS) (hok : c.ok F) : VSpec Tryz.prog v0 [.map (some m)] [clP c [v0, v1], mapK KStr m (encF F)] Unit (fun _ => True) (fun _ => .tuple #[]) (fun _ => [clP c [v0, v1], mapK KStr m (encF (c.run F))]) := by
  cases c with
  | app n s =>
    unfold clP
    refine vspec_ex ?_
    rintro ⟨⟨bn, bs, bl⟩, hv⟩
    cases hv
    refine (vspec_func (args := [.map (some m)]) (cap := [.pointer (some ⟨bl, 0, none⟩), .pointer (some ⟨bs, 0, none⟩)]) (app2_spec m bn bs bl F n s hok)).conseq (fun _ => entD) (fun _ _ => ⟨(), trivial, rfl, fun R h s => ?_⟩)
    exact ex_in ⟨(bn, bs, bl), rfl⟩ rfl ((entD) _ s)
  | trunc n k => exact fun w0 w R hs => (sats_false (hs.heap)).elim
  | ren a b =>
    unfold clP
    refine vspec_ex ?_
    rintro ⟨⟨ba, bb⟩, hv⟩
    cases hv
    refine (vspec_func (args := [.map (some m)]) (cap := [.pointer (some ⟨ba, 0, none⟩), .pointer (some ⟨bb, 0, none⟩)]) (ren1_spec m ba bb F a b)).conseq (fun _ => entD) (fun _ _ => ⟨(), trivial, rfl, fun R h s => ?_⟩)
    exact ex_in ⟨(ba, bb), rfl⟩ rfl ((entD) _ s)
  | rem a =>
    unfold clP
    refine vspec_ex ?_
    rintro ⟨ba, hv⟩
    cases hv
    refine (vspec_func (args := [.map (some m)]) (cap := [.pointer (some ⟨ba, 0, none⟩)]) (rem1_spec m ba F a)).conseq (fun _ => entD) (fun _ _ => ⟨(), trivial, rfl, fun R h s => ?_⟩)
    exact ex_in ⟨ba, rfl⟩ rfl ((entD) _ s)

theorem clsP_snoc : ∀ {cs : List Cl} {vs : List (List Value)} (c : Cl) (v : List Value), vs.length = cs.length → clsP (cs ++ [c]) (vs ++ [v]) = clsP cs vs ++ [clP c v]
  | [], [], _, _, _ => rfl
  | [], _ :: _, _, _, h => by cases h
  | _ :: _, [], _, _, h => by cases h
  | d :: cs, w :: vs, c, v, h => by
    have := clsP_snoc c v (by simpa using h : vs.length = cs.length)
    show clP d w :: clsP (cs ++ [c]) (vs ++ [v]) = _
    rw [this]; rfl

theorem clsP_add {cs : List Cl} {vs : List (List Value)} {c : Cl} {v : List Value} (hl : vs.length = cs.length) {L : List HProp} {h : Frag} (s : SatL ((fun h => SatL (clsP cs vs) h) :: clP c v :: L) h) : SatL ((fun h => SatL (clsP (cs ++ [c]) (vs ++ [v])) h) :: L) h := by
  rw [clsP_snoc c v hl]
  have s1 := SatL.flat s
  exact SatL.unflat (M := clsP cs vs ++ [clP c v]) (by rw [List.append_assoc]; exact s1)

theorem do_spec (b : Nat) (d : Dk) (c : Cl) (v0 v1 : Value) (h0 : v0.oneCell' = true) (h1 : v1.oneCell' = true) (hd : d.Ok) (hc : c.ok d.files) (hl : d.loose.length ≤ 1099511627776) :
    FSpec Tryz.prog 49 [.pointer (some ⟨b, 0, none⟩), .agg [v0, v1].toArray] [diskP b d, clP c [v0, v1]] Unit (fun _ => True) (fun _ => .int .i64 (d.doC c).2) (fun _ => [diskP b (d.doC c).1]) := by
  refine fspec_ex ?_
  rintro ⟨⟨m1, m2, v, vs⟩, hv, hvs⟩
  have f0 := hd.fuse0
  have fM := hd.fuseM
  unfold diskL
  dsimp only
  by_cases hf : d.fuse = 0
  · have e : d.doC c = ({ d with still := true }, 20) := by unfold Dk.doC; rw [if_pos hf]
    rw [e]
    dsimp only
    refine spec_intro [] _ Tryz.func49 rfl Tryz.ntmps49 (by rfl) (fun w0 R => ?_)
    repeat' (first | (refine go_DkF ?_; intros) | (refine gs_DkF ?_ ?_ <;> (intro hgd; try (simp only [Bool.not_true, Bool.not_false] at hgd))) | (refine gc_DkF ?_ ?_ <;> intro _) | fail)
    refine cl_DkF (burn_spec b [] (.map (some m1)) (.map (some m2)) v (.int .i64 d.room) d.fuse d.still f0 fM) ?_
    intro _ _
    rw [if_pos hf, if_pos hf, if_pos hf]
    repeat' (first | (refine go_DkF ?_; intros) | (refine gs_DkF ?_ ?_ <;> (intro hgd; try (simp only [Bool.not_true, Bool.not_false] at hgd))) | (refine gc_DkF ?_ ?_ <;> intro _) | fail)
    refine cont_map (fun _ h => disk_in (b := b) (m1 := m1) (m2 := m2) (d := { d with still := true }) (v := v) (vs := vs) hv hvs (Take.out takeD h)) ?_
    (refine rt_DkF (y := ()) (hrs := Tryz.results49) (hv := ?_) (hφ := ?_))
    · rfl
    · trivial
  · have e : d.doC c = ({ d with fuse := if (-1 : Int) > d.fuse - 1 then -1 else d.fuse - 1, files := c.run d.files, loose := d.loose ++ [c] }, 0) := by unfold Dk.doC; rw [if_neg hf]
    rw [e]
    dsimp only at hv hvs ⊢
    have hw := whole_v c v0 v1 m1 d.files hc
    have hl2 : (vs.length + [[v0, v1]].length) * 16 ≤ 140737488355328 := by simp only [List.length_cons, List.length_nil]; omega
    have hone : oneCells [v0, v1] = true := by simp [oneCells, h0, h1]
    have hgB : goodB 2 [[v0, v1]] = true := by simp [goodB, hone]
    refine spec_intro [] _ Tryz.func49 rfl Tryz.ntmps49 (by rfl) (fun w0 R => ?_)
    repeat' (first | (refine go_DkF ?_; intros) | (refine gs_DkF ?_ ?_ <;> (intro hgd; try (simp only [Bool.not_true, Bool.not_false] at hgd))) | (refine gc_DkF ?_ ?_ <;> intro _) | fail)
    refine cl_DkF (burn_spec b [] (.map (some m1)) (.map (some m2)) v (.int .i64 d.room) d.fuse d.still f0 fM) ?_
    intro _ _
    rw [if_neg hf, if_neg hf, if_neg hf]
    repeat' (first | (refine go_DkF ?_; intros) | (refine gs_DkF ?_ ?_ <;> (intro hgd; try (simp only [Bool.not_true, Bool.not_false] at hgd))) | (refine gc_DkF ?_ ?_ <;> intro _) | fail)
    refine clV_DkF (hw) ?_
    intro _ _
    repeat' (first | (refine go_DkF ?_; intros) | (refine gs_DkF ?_ ?_ <;> (intro hgd; try (simp only [Bool.not_true, Bool.not_false] at hgd))) | (refine gc_DkF ?_ ?_ <;> intro _) | fail)
    (apply ok_draw [6]; (focus (kernel_rfl)); (focus ((conv => lhs; whnf); first | done | rfl)); (focus (decide +kernel)); (focus (exact (fun _ h => h))))
    repeat' (first | (refine go_DkF ?_; intros) | (refine gs_DkF ?_ ?_ <;> (intro hgd; try (simp only [Bool.not_true, Bool.not_false] at hgd))) | (refine gc_DkF ?_ ?_ <;> intro _) | fail)
    rename_i w hw'
    refine cont_map (fun _ h => clsP_add (c := c) (v := [v0, v1]) hvs (Take.out2 (A := fun h => SatL (clsP d.loose vs) h) (B := clP c [v0, v1]) takeD h)) ?_
    refine cont_map (fun _ h => disk_in (b := b) (m1 := m1) (m2 := m2) (d := { d with fuse := if (-1 : Int) > d.fuse - 1 then -1 else d.fuse - 1, files := c.run d.files, loose := d.loose ++ [c] }) (v := w) (vs := vs ++ [[v0, v1]]) hw' (by simp [hvs]) (Take.out takeD h)) ?_
    (refine rt_DkF (y := ()) (hrs := Tryz.results49) (hv := ?_) (hφ := ?_))
    · rfl
    · trivial
end Go.Proofs.YtbagfdolcabniaaGreat
/- The walks of package disk, part G: Append, Truncate, Rename, Remove. -/
-- @DEFS Z
set_option linter.unusedSimpArgs false
set_option linter.unusedVariables false
set_option maxRecDepth 4000
namespace Go.Proofs.YtbagfdolcabniaaGreat
open Go Go.Fx Go.Proofs Go.Pl

theorem cl_app {bn bs bl : Nat} {n s : ByteArray} {L : List HProp} {h : Frag} (k : SatL ([pts bn (.cells [.string n].toArray 9), pts bs (.cells [.string s].toArray 9), pts bl (.cells [.func (.func 48) #[] [.pointer (some ⟨bn, 0, none⟩), .pointer (some ⟨bs, 0, none⟩)].toArray].toArray 82)] ++ L) h) :
    SatL (clP (.app n s) [.func (.func 50) #[] [.pointer (some ⟨bl, 0, none⟩), .pointer (some ⟨bs, 0, none⟩)].toArray, .func (.func 48) #[] [.pointer (some ⟨bn, 0, none⟩), .pointer (some ⟨bs, 0, none⟩)].toArray] :: L) h := ex_in ⟨(bn, bs, bl), rfl⟩ rfl k
theorem cl_ren {ba bb : Nat} {a b : ByteArray} {L : List HProp} {h : Frag} (k : SatL ([pts ba (.cells [.string a].toArray 9), pts bb (.cells [.string b].toArray 9)] ++ L) h) :
    SatL (clP (.ren a b) [.func (.func 63) #[] [.pointer (some ⟨ba, 0, none⟩), .pointer (some ⟨bb, 0, none⟩)].toArray, .nilFunc] :: L) h := ex_in ⟨(ba, bb), rfl⟩ rfl k
theorem cl_rem {ba : Nat} {a : ByteArray} {L : List HProp} {h : Frag} (k : SatL ([pts ba (.cells [.string a].toArray 9)] ++ L) h) :
    SatL (clP (.rem a) [.func (.func 61) #[] [.pointer (some ⟨ba, 0, none⟩)].toArray, .nilFunc] :: L) h := ex_in ⟨ba, rfl⟩ rfl k

theorem append_spec (b : Nat) (d : Dk) (name s : ByteArray) (hd : d.Ok) (hl : d.loose.length ≤ 1099511627776) (hn : name.size ≤ 4611686018427387904) (hs : s.size ≤ 549755813888) :
    FSpec Tryz.prog 24 [.pointer (some ⟨b, 0, none⟩), .string name, .string s] [diskP b d] Unit (fun _ => True) (fun _ => .int .i64 (d.append name s).2) (fun _ => [diskP b (d.append name s).1]) := by
  refine fspec_ex ?_
  rintro ⟨⟨m1, m2, v, vs⟩, hv, hvs⟩
  unfold diskL
  dsimp only at hv hvs ⊢
  have hu := hd.used
  have hns : ∀ x ∈ [name], x.size ≤ 4611686018427387904 := by simpa using hn
  have ht := ftext_le name d.files
  have hus : fused d.files ≤ 4611686018427387904 := by omega
  unfold Dk.append
  by_cases h1 : d.live [name] = 0
  · have t1 : (!decide (d.live [name] = 0)) = false := by simp [h1]
    rw [if_neg (by simp [h1])]
    cases h2 : (!(s.toList == [])) with
    | false =>
      have t2 : (!(s.toList == ({ data := #[] } : ByteArray).toList)) = false := by rw [nil_toList]; exact h2
      rw [Bool.false_and, if_neg (by simp)]
      have hdo := do_spec b d (.app name s)
      refine spec_intro [] _ Tryz.func24 rfl Tryz.ntmps24 (by rfl) (fun w0 R => ?_)
      repeat' (first | (refine go_Z ?_; intros) | (refine gs_Z ?_ ?_ <;> (intro hgd; try (simp only [Bool.not_true, Bool.not_false] at hgd))) | (refine gc_Z ?_ ?_ <;> intro _) | fail)
      rename_i bn bs vn hvn
      refine cl_Z (live_spec b [] (.map (some m1)) (.map (some m2)) v (.int .i64 d.room) (.int .i64 d.fuse) d vn (row 9 1 vn [[.string name]]) [name] Vw.row hns (by simp)) ?_
      intro _ _
      rw [h1]
      repeat' (first | (refine go_Z ?_; intros) | (refine gs_Z ?_ ?_ <;> (intro hgd; try (simp only [Bool.not_true, Bool.not_false] at hgd))) | (refine gc_Z ?_ ?_ <;> intro _) | fail)
      refine ok_drawL (cv := []) [4] ([pts bs _, pts b _]) (takeD) (by kernel_rfl) rfl (by decide +kernel) ?_
      repeat' (first | (refine go_Z ?_; intros) | (refine gs_Z ?_ ?_ <;> (intro hgd; try (simp only [Bool.not_true, Bool.not_false] at hgd))) | (refine gc_Z ?_ ?_ <;> intro _) | fail)
      refine opsL_map (fun _ h => disk_in (b := b) (m1 := m1) (m2 := m2) (d := d) (v := v) (vs := vs) hv hvs (Take.out takeD h)) ?_
      rename_i bl
      refine opsL_map (fun _ h => cl_app (bn := bn) (bs := bs) (bl := bl) (n := name) (s := s) (Take.out takeD h)) ?_
      refine cl_Z (hdo _ _ rfl rfl hd (by show (ftext name d.files).size + s.size ≤ _; omega) hl) ?_
      intro _ _
      repeat' (first | (refine go_Z ?_; intros) | (refine gs_Z ?_ ?_ <;> (intro hgd; try (simp only [Bool.not_true, Bool.not_false] at hgd))) | (refine gc_Z ?_ ?_ <;> intro _) | fail)
      (refine rt_Z (y := ()) (hrs := Tryz.results24) (hv := ?_) (hφ := ?_))
      · rfl
      · trivial
    | true =>
      have t2 : (!(s.toList == ({ data := #[] } : ByteArray).toList)) = true := by rw [nil_toList]; exact h2
      rw [Bool.true_and]
      cases h3 : decide (d.room < (fused d.files : Int) + s.size) with
      | true =>
        rw [if_pos rfl]
        refine spec_intro [] _ Tryz.func24 rfl Tryz.ntmps24 (by rfl) (fun w0 R => ?_)
        repeat' (first | (refine go_Z ?_; intros) | (refine gs_Z ?_ ?_ <;> (intro hgd; try (simp only [Bool.not_true, Bool.not_false] at hgd))) | (refine gc_Z ?_ ?_ <;> intro _) | fail)
        rename_i bn bs vn hvn
        refine cl_Z (live_spec b [] (.map (some m1)) (.map (some m2)) v (.int .i64 d.room) (.int .i64 d.fuse) d vn (row 9 1 vn [[.string name]]) [name] Vw.row hns (by simp)) ?_
        intro _ _
        rw [h1]
        repeat' (first | (refine go_Z ?_; intros) | (refine gs_Z ?_ ?_ <;> (intro hgd; try (simp only [Bool.not_true, Bool.not_false] at hgd))) | (refine gc_Z ?_ ?_ <;> intro _) | fail)
        refine ok_drawL (cv := []) [4] ([pts bs _, pts b _]) (takeD) (by kernel_rfl) rfl (by decide +kernel) ?_
        repeat' (first | (refine go_Z ?_; intros) | (refine gs_Z ?_ ?_ <;> (intro hgd; try (simp only [Bool.not_true, Bool.not_false] at hgd))) | (refine gc_Z ?_ ?_ <;> intro _) | fail)
        refine clN_Z (used_spec b m1 d.files (.map (some m2)) v (.int .i64 d.room) (.int .i64 d.fuse) (.bool d.still) hus) ?_
        intro _ _
        repeat' (first | (refine go_Z ?_; intros) | (refine gs_Z ?_ ?_ <;> (intro hgd; try (simp only [Bool.not_true, Bool.not_false] at hgd))) | (refine gc_Z ?_ ?_ <;> intro _) | fail)
        refine cont_map (fun _ h => disk_in (b := b) (m1 := m1) (m2 := m2) (d := d) (v := v) (vs := vs) hv hvs (Take.out takeD h)) ?_
        (refine rt_Z (y := ()) (hrs := Tryz.results24) (hv := ?_) (hφ := ?_))
        · rfl
        · trivial
      | false =>
        rw [if_neg (by simp)]
        have hok : (ftext name d.files).size + s.size ≤ 1099511627776 := by
          have hr := hd.roomM
          simp only [decide_eq_false_iff_not] at h3
          omega
        have hdo := do_spec b d (.app name s)
        refine spec_intro [] _ Tryz.func24 rfl Tryz.ntmps24 (by rfl) (fun w0 R => ?_)
        repeat' (first | (refine go_Z ?_; intros) | (refine gs_Z ?_ ?_ <;> (intro hgd; try (simp only [Bool.not_true, Bool.not_false] at hgd))) | (refine gc_Z ?_ ?_ <;> intro _) | fail)
        rename_i bn bs vn hvn
        refine cl_Z (live_spec b [] (.map (some m1)) (.map (some m2)) v (.int .i64 d.room) (.int .i64 d.fuse) d vn (row 9 1 vn [[.string name]]) [name] Vw.row hns (by simp)) ?_
        intro _ _
        rw [h1]
        repeat' (first | (refine go_Z ?_; intros) | (refine gs_Z ?_ ?_ <;> (intro hgd; try (simp only [Bool.not_true, Bool.not_false] at hgd))) | (refine gc_Z ?_ ?_ <;> intro _) | fail)
        refine ok_drawL (cv := []) [4] ([pts bs _, pts b _]) (takeD) (by kernel_rfl) rfl (by decide +kernel) ?_
        repeat' (first | (refine go_Z ?_; intros) | (refine gs_Z ?_ ?_ <;> (intro hgd; try (simp only [Bool.not_true, Bool.not_false] at hgd))) | (refine gc_Z ?_ ?_ <;> intro _) | fail)
        refine clN_Z (used_spec b m1 d.files (.map (some m2)) v (.int .i64 d.room) (.int .i64 d.fuse) (.bool d.still) hus) ?_
        intro _ _
        repeat' (first | (refine go_Z ?_; intros) | (refine gs_Z ?_ ?_ <;> (intro hgd; try (simp only [Bool.not_true, Bool.not_false] at hgd))) | (refine gc_Z ?_ ?_ <;> intro _) | fail)
        refine opsL_map (fun _ h => disk_in (b := b) (m1 := m1) (m2 := m2) (d := d) (v := v) (vs := vs) hv hvs (Take.out takeD h)) ?_
        rename_i bl
        refine opsL_map (fun _ h => cl_app (bn := bn) (bs := bs) (bl := bl) (n := name) (s := s) (Take.out takeD h)) ?_
        refine cl_Z (hdo _ _ rfl rfl hd hok hl) ?_
        intro _ _
        repeat' (first | (refine go_Z ?_; intros) | (refine gs_Z ?_ ?_ <;> (intro hgd; try (simp only [Bool.not_true, Bool.not_false] at hgd))) | (refine gc_Z ?_ ?_ <;> intro _) | fail)
        (refine rt_Z (y := ()) (hrs := Tryz.results24) (hv := ?_) (hφ := ?_))
        · rfl
        · trivial
  · have t1 : (!decide (d.live [name] = 0)) = true := by simp [h1]
    rw [if_pos h1]
    refine spec_intro [] _ Tryz.func24 rfl Tryz.ntmps24 (by rfl) (fun w0 R => ?_)
    repeat' (first | (refine go_Z ?_; intros) | (refine gs_Z ?_ ?_ <;> (intro hgd; try (simp only [Bool.not_true, Bool.not_false] at hgd))) | (refine gc_Z ?_ ?_ <;> intro _) | fail)
    rename_i bn bs vn hvn
    refine cl_Z (live_spec b [] (.map (some m1)) (.map (some m2)) v (.int .i64 d.room) (.int .i64 d.fuse) d vn (row 9 1 vn [[.string name]]) [name] Vw.row hns (by simp)) ?_
    intro _ _
    repeat' (first | (refine go_Z ?_; intros) | (refine gs_Z ?_ ?_ <;> (intro hgd; try (simp only [Bool.not_true, Bool.not_false] at hgd))) | (refine gc_Z ?_ ?_ <;> intro _) | fail)
    refine cont_map (fun _ h => disk_in (b := b) (m1 := m1) (m2 := m2) (d := d) (v := v) (vs := vs) hv hvs (Take.out takeD h)) ?_
    (refine rt_Z (y := ()) (hrs := Tryz.results24) (hv := ?_) (hφ := ?_))
    · rfl
    · trivial
end Go.Proofs.YtbagfdolcabniaaGreat
/- The walks of package disk, part H: Truncate, Rename, Remove. -/
-- @DEFS Z
set_option linter.unusedSimpArgs false
set_option linter.unusedVariables false
set_option maxRecDepth 4000
namespace Go.Proofs.YtbagfdolcabniaaGreat
open Go Go.Fx Go.Proofs Go.Pl

theorem rename_spec (b : Nat) (d : Dk) (x y : ByteArray) (hd : d.Ok) (hl : d.loose.length ≤ 1099511627776) (hx : x.size ≤ 4611686018427387904) (hy : y.size ≤ 4611686018427387904) :
    FSpec Tryz.prog 35 [.pointer (some ⟨b, 0, none⟩), .string x, .string y] [diskP b d] Unit (fun _ => True) (fun _ => .int .i64 (d.rename x y).2) (fun _ => [diskP b (d.rename x y).1]) := by
  refine fspec_ex ?_
  rintro ⟨⟨m1, m2, v, vs⟩, hv, hvs⟩
  unfold diskL
  dsimp only at hv hvs ⊢
  have hns : ∀ z ∈ [x, y], z.size ≤ 4611686018427387904 := by simp [hx, hy]
  unfold Dk.rename
  by_cases h1 : d.live [x, y] = 0
  · have t1 : (!decide (d.live [x, y] = 0)) = false := by simp [h1]
    rw [if_neg (by simp [h1])]
    cases h2 : (x.toList == y.toList) with
    | true =>
      rw [if_pos rfl]
      refine spec_intro [] _ Tryz.func35 rfl Tryz.ntmps35 (by rfl) (fun w0 R => ?_)
      repeat' (first | (refine go_Z ?_; intros) | (refine gs_Z ?_ ?_ <;> (intro hgd; try (simp only [Bool.not_true, Bool.not_false] at hgd))) | (refine gc_Z ?_ ?_ <;> intro _) | fail)
      rename_i bx by_ vn hvn
      refine cl_Z (live_spec b [] (.map (some m1)) (.map (some m2)) v (.int .i64 d.room) (.int .i64 d.fuse) d vn (row 9 1 vn [[.string x], [.string y]]) [x, y] Vw.row hns (by simp)) ?_
      intro _ _
      rw [h1]
      repeat' (first | (refine go_Z ?_; intros) | (refine gs_Z ?_ ?_ <;> (intro hgd; try (simp only [Bool.not_true, Bool.not_false] at hgd))) | (refine gc_Z ?_ ?_ <;> intro _) | fail)
      refine cont_map (fun _ h => disk_in (b := b) (m1 := m1) (m2 := m2) (d := d) (v := v) (vs := vs) hv hvs (Take.out takeD h)) ?_
      (refine rt_Z (y := ()) (hrs := Tryz.results35) (hv := ?_) (hφ := ?_))
      · rfl
      · trivial
    | false =>
      rw [if_neg (by simp)]
      have hh : d.has x = (fget x d.files).isSome := rfl
      cases hf : fget x d.files with
      | none =>
        rw [if_pos (by rw [hh, hf]; rfl)]
        refine spec_intro [] _ Tryz.func35 rfl Tryz.ntmps35 (by rfl) (fun w0 R => ?_)
        repeat' (first | (refine go_Z ?_; intros) | (refine gs_Z ?_ ?_ <;> (intro hgd; try (simp only [Bool.not_true, Bool.not_false] at hgd))) | (refine gc_Z ?_ ?_ <;> intro _) | fail)
        rename_i bx by_ vn hvn
        refine cl_Z (live_spec b [] (.map (some m1)) (.map (some m2)) v (.int .i64 d.room) (.int .i64 d.fuse) d vn (row 9 1 vn [[.string x], [.string y]]) [x, y] Vw.row hns (by simp)) ?_
        intro _ _
        rw [h1]
        repeat' (first | (refine go_Z ?_; intros) | (refine gs_Z ?_ ?_ <;> (intro hgd; try (simp only [Bool.not_true, Bool.not_false] at hgd))) | (refine gc_Z ?_ ?_ <;> intro _) | fail)
        refine cl_Z (has_spec b m1 d.files x (.map (some m2)) v (.int .i64 d.room) (.int .i64 d.fuse) (.bool d.still)) ?_
        intro _ _
        rw [hf]
        repeat' (first | (refine go_Z ?_; intros) | (refine gs_Z ?_ ?_ <;> (intro hgd; try (simp only [Bool.not_true, Bool.not_false] at hgd))) | (refine gc_Z ?_ ?_ <;> intro _) | fail)
        refine cont_map (fun _ h => disk_in (b := b) (m1 := m1) (m2 := m2) (d := d) (v := v) (vs := vs) hv hvs (Take.out takeD h)) ?_
        (refine rt_Z (y := ()) (hrs := Tryz.results35) (hv := ?_) (hφ := ?_))
        · rfl
        · trivial
      | some t =>
        rw [if_neg (by rw [hh, hf]; simp)]
        have hdo := do_spec b d (.ren x y)
        refine spec_intro [] _ Tryz.func35 rfl Tryz.ntmps35 (by rfl) (fun w0 R => ?_)
        repeat' (first | (refine go_Z ?_; intros) | (refine gs_Z ?_ ?_ <;> (intro hgd; try (simp only [Bool.not_true, Bool.not_false] at hgd))) | (refine gc_Z ?_ ?_ <;> intro _) | fail)
        rename_i bx by_ vn hvn
        refine cl_Z (live_spec b [] (.map (some m1)) (.map (some m2)) v (.int .i64 d.room) (.int .i64 d.fuse) d vn (row 9 1 vn [[.string x], [.string y]]) [x, y] Vw.row hns (by simp)) ?_
        intro _ _
        rw [h1]
        repeat' (first | (refine go_Z ?_; intros) | (refine gs_Z ?_ ?_ <;> (intro hgd; try (simp only [Bool.not_true, Bool.not_false] at hgd))) | (refine gc_Z ?_ ?_ <;> intro _) | fail)
        refine cl_Z (has_spec b m1 d.files x (.map (some m2)) v (.int .i64 d.room) (.int .i64 d.fuse) (.bool d.still)) ?_
        intro _ _
        rw [hf]
        repeat' (first | (refine go_Z ?_; intros) | (refine gs_Z ?_ ?_ <;> (intro hgd; try (simp only [Bool.not_true, Bool.not_false] at hgd))) | (refine gc_Z ?_ ?_ <;> intro _) | fail)
        refine opsL_map (fun _ h => disk_in (b := b) (m1 := m1) (m2 := m2) (d := d) (v := v) (vs := vs) hv hvs (Take.out takeD h)) ?_
        refine opsL_map (fun _ h => cl_ren (ba := bx) (bb := by_) (a := x) (b := y) (Take.out takeD h)) ?_
        refine cl_Z (hdo _ _ rfl rfl hd trivial hl) ?_
        intro _ _
        repeat' (first | (refine go_Z ?_; intros) | (refine gs_Z ?_ ?_ <;> (intro hgd; try (simp only [Bool.not_true, Bool.not_false] at hgd))) | (refine gc_Z ?_ ?_ <;> intro _) | fail)
        (refine rt_Z (y := ()) (hrs := Tryz.results35) (hv := ?_) (hφ := ?_))
        · rfl
        · trivial
  · have t1 : (!decide (d.live [x, y] = 0)) = true := by simp [h1]
    rw [if_pos h1]
    refine spec_intro [] _ Tryz.func35 rfl Tryz.ntmps35 (by rfl) (fun w0 R => ?_)
    repeat' (first | (refine go_Z ?_; intros) | (refine gs_Z ?_ ?_ <;> (intro hgd; try (simp only [Bool.not_true, Bool.not_false] at hgd))) | (refine gc_Z ?_ ?_ <;> intro _) | fail)
    rename_i bx by_ vn hvn
    refine cl_Z (live_spec b [] (.map (some m1)) (.map (some m2)) v (.int .i64 d.room) (.int .i64 d.fuse) d vn (row 9 1 vn [[.string x], [.string y]]) [x, y] Vw.row hns (by simp)) ?_
    intro _ _
    repeat' (first | (refine go_Z ?_; intros) | (refine gs_Z ?_ ?_ <;> (intro hgd; try (simp only [Bool.not_true, Bool.not_false] at hgd))) | (refine gc_Z ?_ ?_ <;> intro _) | fail)
    refine cont_map (fun _ h => disk_in (b := b) (m1 := m1) (m2 := m2) (d := d) (v := v) (vs := vs) hv hvs (Take.out takeD h)) ?_
    (refine rt_Z (y := ()) (hrs := Tryz.results35) (hv := ?_) (hφ := ?_))
    · rfl
    · trivial

theorem remove_spec (b : Nat) (d : Dk) (x : ByteArray) (hd : d.Ok) (hl : d.loose.length ≤ 1099511627776) (hx : x.size ≤ 4611686018427387904) :
    FSpec Tryz.prog 31 [.pointer (some ⟨b, 0, none⟩), .string x] [diskP b d] Unit (fun _ => True) (fun _ => .int .i64 (d.remove x).2) (fun _ => [diskP b (d.remove x).1]) := by
  refine fspec_ex ?_
  rintro ⟨⟨m1, m2, v, vs⟩, hv, hvs⟩
  unfold diskL
  dsimp only at hv hvs ⊢
  have hns : ∀ z ∈ [x], z.size ≤ 4611686018427387904 := by simp [hx]
  unfold Dk.remove
  by_cases h1 : d.live [x] = 0
  · have t1 : (!decide (d.live [x] = 0)) = false := by simp [h1]
    rw [if_neg (by simp [h1])]
    have hh : d.has x = (fget x d.files).isSome := rfl
    cases hf : fget x d.files with
    | none =>
      rw [if_pos (by rw [hh, hf]; rfl)]
      refine spec_intro [] _ Tryz.func31 rfl Tryz.ntmps31 (by rfl) (fun w0 R => ?_)
      repeat' (first | (refine go_Z ?_; intros) | (refine gs_Z ?_ ?_ <;> (intro hgd; try (simp only [Bool.not_true, Bool.not_false] at hgd))) | (refine gc_Z ?_ ?_ <;> intro _) | fail)
      rename_i bx vn hvn
      refine cl_Z (live_spec b [] (.map (some m1)) (.map (some m2)) v (.int .i64 d.room) (.int .i64 d.fuse) d vn (row 9 1 vn [[.string x]]) [x] Vw.row hns (by simp)) ?_
      intro _ _
      rw [h1]
      repeat' (first | (refine go_Z ?_; intros) | (refine gs_Z ?_ ?_ <;> (intro hgd; try (simp only [Bool.not_true, Bool.not_false] at hgd))) | (refine gc_Z ?_ ?_ <;> intro _) | fail)
      refine cl_Z (has_spec b m1 d.files x (.map (some m2)) v (.int .i64 d.room) (.int .i64 d.fuse) (.bool d.still)) ?_
      intro _ _
      rw [hf]
      repeat' (first | (refine go_Z ?_; intros) | (refine gs_Z ?_ ?_ <;> (intro hgd; try (simp only [Bool.not_true, Bool.not_false] at hgd))) | (refine gc_Z ?_ ?_ <;> intro _) | fail)
      refine cont_map (fun _ h => disk_in (b := b) (m1 := m1) (m2 := m2) (d := d) (v := v) (vs := vs) hv hvs (Take.out takeD h)) ?_
      (refine rt_Z (y := ()) (hrs := Tryz.results31) (hv := ?_) (hφ := ?_))
      · rfl
      · trivial
    | some t =>
      rw [if_neg (by rw [hh, hf]; simp)]
      have hdo := do_spec b d (.rem x)
      refine spec_intro [] _ Tryz.func31 rfl Tryz.ntmps31 (by rfl) (fun w0 R => ?_)
      repeat' (first | (refine go_Z ?_; intros) | (refine gs_Z ?_ ?_ <;> (intro hgd; try (simp only [Bool.not_true, Bool.not_false] at hgd))) | (refine gc_Z ?_ ?_ <;> intro _) | fail)
      rename_i bx vn hvn
      refine cl_Z (live_spec b [] (.map (some m1)) (.map (some m2)) v (.int .i64 d.room) (.int .i64 d.fuse) d vn (row 9 1 vn [[.string x]]) [x] Vw.row hns (by simp)) ?_
      intro _ _
      rw [h1]
      repeat' (first | (refine go_Z ?_; intros) | (refine gs_Z ?_ ?_ <;> (intro hgd; try (simp only [Bool.not_true, Bool.not_false] at hgd))) | (refine gc_Z ?_ ?_ <;> intro _) | fail)
      refine cl_Z (has_spec b m1 d.files x (.map (some m2)) v (.int .i64 d.room) (.int .i64 d.fuse) (.bool d.still)) ?_
      intro _ _
      rw [hf]
      repeat' (first | (refine go_Z ?_; intros) | (refine gs_Z ?_ ?_ <;> (intro hgd; try (simp only [Bool.not_true, Bool.not_false] at hgd))) | (refine gc_Z ?_ ?_ <;> intro _) | fail)
      refine opsL_map (fun _ h => disk_in (b := b) (m1 := m1) (m2 := m2) (d := d) (v := v) (vs := vs) hv hvs (Take.out takeD h)) ?_
      refine opsL_map (fun _ h => cl_rem (ba := bx) (a := x) (Take.out takeD h)) ?_
      refine cl_Z (hdo _ _ rfl rfl hd trivial hl) ?_
      intro _ _
      repeat' (first | (refine go_Z ?_; intros) | (refine gs_Z ?_ ?_ <;> (intro hgd; try (simp only [Bool.not_true, Bool.not_false] at hgd))) | (refine gc_Z ?_ ?_ <;> intro _) | fail)
      (refine rt_Z (y := ()) (hrs := Tryz.results31) (hv := ?_) (hφ := ?_))
      · rfl
      · trivial
  · have t1 : (!decide (d.live [x] = 0)) = true := by simp [h1]
    rw [if_pos h1]
    refine spec_intro [] _ Tryz.func31 rfl Tryz.ntmps31 (by rfl) (fun w0 R => ?_)
    repeat' (first | (refine go_Z ?_; intros) | (refine gs_Z ?_ ?_ <;> (intro hgd; try (simp only [Bool.not_true, Bool.not_false] at hgd))) | (refine gc_Z ?_ ?_ <;> intro _) | fail)
    rename_i bx vn hvn
    refine cl_Z (live_spec b [] (.map (some m1)) (.map (some m2)) v (.int .i64 d.room) (.int .i64 d.fuse) d vn (row 9 1 vn [[.string x]]) [x] Vw.row hns (by simp)) ?_
    intro _ _
    repeat' (first | (refine go_Z ?_; intros) | (refine gs_Z ?_ ?_ <;> (intro hgd; try (simp only [Bool.not_true, Bool.not_false] at hgd))) | (refine gc_Z ?_ ?_ <;> intro _) | fail)
    refine cont_map (fun _ h => disk_in (b := b) (m1 := m1) (m2 := m2) (d := d) (v := v) (vs := vs) hv hvs (Take.out takeD h)) ?_
    (refine rt_Z (y := ()) (hrs := Tryz.results31) (hv := ?_) (hφ := ?_))
    · rfl
    · trivial
end Go.Proofs.YtbagfdolcabniaaGreat
