/- TxnWhole: for every input the law returns true, and each argument reads behind the call as it read before; the card, tied to the program's text. Conditions: the row's own (the two tables of utf8 as the program's text lays them). -/
import Derived.Test.YtbagfdolcabniaaDoorTwA
import Derived.Test.YtbagfdolcabniaaDoorLd
import Derived.Test.YtbagfdolcabniaaDoorCards
set_option linter.unusedSimpArgs false
set_option linter.unusedVariables false
set_option maxRecDepth 8000
namespace Go.Proofs.YtbagfdolcabniaaDoor
open Go Go.Fx Go.Proofs Go.Pl Go.ChangeShapes Go.WideShapes Go.ChangeAt Go.RowKit

theorem open_Lm {H : Type} {enc : TypeId × Value → H} {W : World} {held : Bool} {fuel : Nat} {cs : List Value} {y : DataW H × List MemPlace} (h : DataW.trod enc Tryd.prog W 0 (fun _ => true) held fuel 25 cs = some y)
    (hw : ∀ k ∈ y.1.weights Tryd.prog 25, k ≤ reachBytes) : ∃ x : Lm, cs = lmV x ∧ OsR (orig W) x.1.1 x.2 ∧ ∀ q ∈ x.2, ∀ v ∈ q.row, v.wf := by
  obtain ⟨v, l, e, hcap, hp, hv⟩ := open_Oms h hw
  have h1c : v.oneCell' = true := by
    obtain ⟨_, _, _, rfl, _⟩ := hcap
    rfl
  exact ⟨(⟨v, h1c⟩, l), e, ⟨hv, fun o h => (hp o h).1, ld_len Tryd.underlying25 (of_decide_eq_true (by kernel_rfl)) h e hw hv⟩, fun q h => (hp q h).2⟩

instance : Inhabited Lm := ⟨(⟨.bool true, rfl⟩, [])⟩
theorem open_Lms {H : Type} {enc : TypeId × Value → H} {W : World} {held : Bool} {fuel : Nat} {cs : List Value} {y : DataW H × List MemPlace} (h : DataW.trod enc Tryd.prog W 0 (fun _ => true) held fuel 97 cs = some y)
    (hw : ∀ k ∈ y.1.weights Tryd.prog 97, k ≤ reachBytes) : ∃ (v : Value) (l : List Lm), cs = [v] ∧ capOk v ∧ (∀ x ∈ l, (fun x : Lm => OsR (orig W) x.1.1 x.2 ∧ ∀ q ∈ x.2, ∀ v ∈ q.row, v.wf) x) ∧ Vw (orig W) 1 v (l.map lmV) :=
  open_viewC (e := 25) (n := 1) Tryd.underlying97 (by kernel_rfl) (by decide) h hw lmV (fun x : Lm => OsR (orig W) x.1.1 x.2 ∧ ∀ q ∈ x.2, ∀ v ∈ q.row, v.wf) (fun x => ⟨rfl, by simp only [lmV, oneCells, List.all_cons, List.all_nil, x.1.2, Bool.and_true]⟩) (fun fuel cs y h hw => open_Lm h hw)

theorem open_Bl {H : Type} {enc : TypeId × Value → H} {W : World} {held : Bool} {fuel : Nat} {cs : List Value} {y : DataW H × List MemPlace} (h : DataW.trod enc Tryd.prog W 0 (fun _ => true) held fuel 4 cs = some y)
    (hw : ∀ k ∈ y.1.weights Tryd.prog 4, k ≤ reachBytes) : ∃ x : Bool, cs = blV x ∧ True := by
  obtain ⟨a, e, _⟩ := DataW.trod_bool Tryd.underlying4 h
  exact ⟨a, e, trivial⟩

theorem open_Bls {H : Type} {enc : TypeId × Value → H} {W : World} {held : Bool} {fuel : Nat} {cs : List Value} {y : DataW H × List MemPlace} (h : DataW.trod enc Tryd.prog W 0 (fun _ => true) held fuel 98 cs = some y)
    (hw : ∀ k ∈ y.1.weights Tryd.prog 98, k ≤ reachBytes) : ∃ (v : Value) (l : List Bool), cs = [v] ∧ capOk v ∧ (∀ x ∈ l, (fun _ : Bool => True) x) ∧ Vw (orig W) 1 v (l.map blV) :=
  open_viewC (e := 4) (n := 1) Tryd.underlying98 (by kernel_rfl) (by decide) h hw blV (fun _ : Bool => True) (fun x => ⟨rfl, rfl⟩) (fun fuel cs y h hw => open_Bl h hw)

set_option maxRecDepth 100000 in
theorem txnWhole_lifted (os : Os) (started : os.Started) (H : Type) (enc : TypeId × Value → H) :
    ReturnsInHanded {} Tryd.checked os 9 .any (fun w args => (Rows.txnWholeSpec.pre enc Tryd.prog Tryd.f9 [] false w args ∧ laidMetH Tryd.prog Rows.txnWholeRow.laid w) ∧ sizedMet enc Tryd.prog Tryd.f9 (OpenSpec.ofChange Rows.txnWholeSpec) false w args)
      (Rows.txnWholeSpec.post enc Tryd.prog Tryd.f9 false true false false) := by
  refine returnsInHanded_of_change_and (C := Tryd.checked) (X := (fun w _ => laidMetH Tryd.prog Rows.txnWholeRow.laid w)) (fun _ _ _ hh h => h.of_heap hh) lf_own started (by kernel_rfl) Tryd.func9
    (ChangeSpec.witness_shaped (enc := enc) (C := Tryd.checked) (os := os) (X := (fun w _ => laidMetH Tryd.prog Rows.txnWholeRow.laid w)) false (World.laidAll Tryd.prog os Rows.txnWholeRow.laid) #[.agg #[.slice none 0 0], .slice none 0 0, .slice none 0 0] 8 (World.laidAll_os _ _ _)
      (World.shaped_of_ZipB (by kernel_rfl) (by kernel_rfl)) (by kernel_rfl) (by kernel_rfl) (by kernel_rfl)
      (by rw [MakeChecks.laidMetH_plain _ _ _ (by kernel_rfl)]; exact laidMet_laidAll _ (by kernel_rfl) (by kernel_rfl))) ?_
  intro W base args ds gs before hval0 hW _ hsz hL _
  have hUT : UT (orig W) := ld_ut hL
  have hval : ∀ (j : Nat) t v, Tryd.f9.params[j]? = some t → args[j]? = some v → Value.okWide Tryd.prog W .any base t v := hval0
  have hW' := hW
  obtain ⟨p, q, hA0, hV, rfl, _, _⟩ := hW
  have hA : DataW.TrodAll enc Tryd.prog W 0 (fun _ => true) true Tryd.f9.params.toList args.toList ds p := hA0
  rw [Tryd.params9] at hA hval
  obtain ⟨v0, v1, v2, d0, d1, d2, p0, p1, p2, rfl, rfl, rfl, h0, h1, h2⟩ := trodAll_three hA
  obtain ⟨rfl, rfl⟩ := trodVars_none hV
  have hsz' : (DataW.weightsEach Tryd.prog [24, 97, 98] [d0, d1, d2]).all (· ≤ reachBytes) = true := hsz
  have hszj : ∀ (j : Nat) t d, [24, 97, 98][j]? = some t → [d0, d1, d2][j]? = some d → ∀ k ∈ d.weights Tryd.prog t, k ≤ reachBytes := fun j t d ht hd k hk => by
    have := List.all_eq_true.1 hsz' k (DataW.weights_mem_each (j := j) ht hd k hk)
    simpa using this
  obtain ⟨cs0, rfl, _⟩ := okWide_struct Tryd.underlying24 (hval 0 24 v0 rfl rfl)
  obtain ⟨fuel0, hf0⟩ := h0
  obtain ⟨x0, hx0, hq0⟩ := open_Sc hf0 (hszj 0 _ _ rfl rfl)
  have hcs0 : cs0 = (scV x0).toArray := Array.ext' (by have e : (Value.agg cs0).cells.toList = cs0.toList := rfl; rw [← e, hx0])
  subst hcs0
  obtain ⟨a1, len1, cap1, rfl⟩ := okWide_slice Tryd.underlying97 (hval 1 97 v1 rfl rfl)
  obtain ⟨fuel1, hf1⟩ := h1
  obtain ⟨u1, l1, ev1, hc1, hp1, hv1⟩ := open_Lms hf1 (hszj 1 _ _ rfl rfl)
  have ee1 : (Value.slice a1 len1 cap1).cells.toList = [Value.slice a1 len1 cap1] := rfl
  rw [ee1] at ev1
  simp only [List.cons.injEq, and_true] at ev1
  subst ev1
  obtain ⟨a2, len2, cap2, rfl⟩ := okWide_slice Tryd.underlying98 (hval 2 98 v2 rfl rfl)
  obtain ⟨fuel2, hf2⟩ := h2
  obtain ⟨u2, l2, ev2, hc2, hp2, hv2⟩ := open_Bls hf2 (hszj 2 _ _ rfl rfl)
  have ee2 : (Value.slice a2 len2 cap2).cells.toList = [Value.slice a2 len2 cap2] := rfl
  rw [ee2] at ev2
  simp only [List.cons.injEq, and_true] at ev2
  subst ev2
  refine (calls_true_ext (TxnWhole_spec x0.1.1 (.slice a1 len1 cap1) (.slice a2 len2 cap2) x0.2 l1 l2 (orig W) hUT x0.1.2 hq0 hv1 (ld_len Tryd.underlying97 (of_decide_eq_true (by kernel_rfl)) hf1 rfl (hszj 1 _ _ rfl rfl) hv1) (fun x h => (hp1 x h).1) hv2 (ld_len Tryd.underlying98 (of_decide_eq_true (by kernel_rfl)) hf2 rfl (hszj 2 _ _ rfl rfl) hv2) (fun x h => (hp1 x h).2))).mono fun e W' ⟨he, hnx⟩ => ?_
  subst he
  refine ⟨_, rfl, _, _, _, [], p0 ++ p1 ++ p2, [], hW', ?_, ?_, rfl, hnx.frame _, fun h => by cases h⟩
  · exact trodAll_mk1 (shut_bool Tryd.underlying4 true)
  · exact below_trodAll lf_laidOut hnx (by kernel_rfl) hA0 (fun x hx => by have := hW'.lt x (by simpa using hx); simpa using this)

/-- TxnWhole, for every input: the row. -/
theorem txnWhole_row : Rows.TxnWholeSaid :=
  OpenClaim.holds_of_wide 9 Tryd.f9 rfl rfl rfl rfl rfl rfl rfl ⟨rfl, rfl, rfl, rfl, rfl⟩ rfl rfl rfl rfl rfl (by kernel_rfl) Tryd.func9 (by kernel_rfl)
    (of_decide_eq_true (by kernel_rfl)) (by unfold Func.isWrapper; first | (rw [if_pos (by decide +kernel)]; kernel_rfl) | (rw [if_neg (by decide +kernel)]; exact ⟨rfl, rfl⟩))
    (fun os started H enc _ => txnWhole_lifted os started H enc)
/-- TxnWhole, for every input: the card, tied to the program's text. -/
theorem txnWhole_holds : Rows.TxnWholeCardSaid :=
  Claim7.holds_tied_plain_at .later [] [.data, .pinned] true Rows.txnWholeCard.stood.harness Rows.txnWholeCard.stood.looks
    txnWhole_row (fun _ h => by cases h) (by kernel_rfl) (fun _ h => by cases h) txnWhole_row_tie rfl ⟨rfl, rfl⟩ (by kernel_rfl) rfl
    (fun f fn hf hfn => by
      obtain rfl : f = 9 := Option.some.inj ((show Tryd.prog.funcNamed "fascicle/fasciclelaw15.TxnWhole" = some 9 by kernel_rfl).symm.trans hf) |>.symm
      obtain rfl : fn = Tryd.f9 := (Option.some.inj (Tryd.func9.symm.trans hfn)).symm
      exact ⟨by kernel_rfl, fun j t ht => by
        rw [Tryd.params9] at ht
        have hm : t ∈ [24, 97, 98] := by simpa using Array.mem_of_getElem? ht
        have hall : ([24, 97, 98].all fun u => !Tryd.prog.wantsStandIn u) = true := by kernel_rfl
        exact (show Tryd.prog.wantsStandIn t = false by simpa using List.all_eq_true.1 hall t hm)⟩)
    (by kernel_rfl)
end Go.Proofs.YtbagfdolcabniaaDoor

