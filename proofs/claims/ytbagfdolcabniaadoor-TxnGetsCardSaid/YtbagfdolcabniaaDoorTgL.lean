/- TxnGets: for every input the law returns true, and each argument reads behind the call as it read before; the card, tied to the program's text. Conditions: the row's own (the two tables of utf8 as the program's text lays them). -/
import Derived.Test.YtbagfdolcabniaaDoorTgA
import Derived.Test.YtbagfdolcabniaaDoorLd
import Derived.Test.YtbagfdolcabniaaDoorCards
set_option linter.unusedSimpArgs false
set_option linter.unusedVariables false
set_option maxRecDepth 8000
namespace Go.Proofs.YtbagfdolcabniaaDoor
open Go Go.Fx Go.Proofs Go.Pl Go.ChangeShapes Go.WideShapes Go.ChangeAt Go.RowKit

set_option maxRecDepth 100000 in
theorem txnGets_lifted (os : Os) (started : os.Started) (H : Type) (enc : TypeId × Value → H) :
    ReturnsInHanded {} Tryd.checked os 4 .any (fun w args => (Rows.txnGetsSpec.pre enc Tryd.prog Tryd.f4 [] false w args ∧ laidMetH Tryd.prog Rows.txnGetsRow.laid w) ∧ sizedMet enc Tryd.prog Tryd.f4 (OpenSpec.ofChange Rows.txnGetsSpec) false w args)
      (Rows.txnGetsSpec.post enc Tryd.prog Tryd.f4 false true false false) := by
  refine returnsInHanded_of_change_and (C := Tryd.checked) (X := (fun w _ => laidMetH Tryd.prog Rows.txnGetsRow.laid w)) (fun _ _ _ hh h => h.of_heap hh) lf_own started (by kernel_rfl) Tryd.func4
    (ChangeSpec.witness_shaped (enc := enc) (C := Tryd.checked) (os := os) (X := (fun w _ => laidMetH Tryd.prog Rows.txnGetsRow.laid w)) false (World.laidAll Tryd.prog os Rows.txnGetsRow.laid) #[.agg #[.slice none 0 0], .slice none 0 0, .slice none 0 0, .int .i64 0, .agg #[.int .u8 0, .int .i64 0, .int .u64 0, .string ⟨#[]⟩]] 8 (World.laidAll_os _ _ _)
      (World.shaped_of_ZipB (by kernel_rfl) (by kernel_rfl)) (by kernel_rfl) (by kernel_rfl) (by kernel_rfl)
      (by rw [MakeChecks.laidMetH_plain _ _ _ (by kernel_rfl)]; exact laidMet_laidAll _ (by kernel_rfl) (by kernel_rfl))) ?_
  intro W base args ds gs before hval0 hW _ hsz hL _
  have hUT : UT (orig W) := ld_ut hL
  have hval : ∀ (j : Nat) t v, Tryd.f4.params[j]? = some t → args[j]? = some v → Value.okWide Tryd.prog W .any base t v := hval0
  have hW' := hW
  obtain ⟨p, q, hA0, hV, rfl, _, _⟩ := hW
  have hA : DataW.TrodAll enc Tryd.prog W 0 (fun _ => true) true Tryd.f4.params.toList args.toList ds p := hA0
  rw [Tryd.params4] at hA hval
  obtain ⟨v0, v1, v2, v3, v4, d0, d1, d2, d3, d4, p0, p1, p2, p3, p4, rfl, rfl, rfl, h0, h1, h2, h3, h4⟩ := lf_trod5 hA
  obtain ⟨rfl, rfl⟩ := trodVars_none hV
  have hsz' : (DataW.weightsEach Tryd.prog [24, 25, 25, 3, 31] [d0, d1, d2, d3, d4]).all (· ≤ reachBytes) = true := hsz
  have hszj : ∀ (j : Nat) t d, [24, 25, 25, 3, 31][j]? = some t → [d0, d1, d2, d3, d4][j]? = some d → ∀ k ∈ d.weights Tryd.prog t, k ≤ reachBytes := fun j t d ht hd k hk => by
    have := List.all_eq_true.1 hsz' k (DataW.weights_mem_each (j := j) ht hd k hk)
    simpa using this
  obtain ⟨cs0, rfl, _⟩ := okWide_struct Tryd.underlying24 (hval 0 24 v0 rfl rfl)
  obtain ⟨fuel0, hf0⟩ := h0
  obtain ⟨x0, hx0, hq0⟩ := open_Sc hf0 (hszj 0 _ _ rfl rfl)
  have hcs0 : cs0 = (scV x0).toArray := Array.ext' (by have e : (Value.agg cs0).cells.toList = cs0.toList := rfl; rw [← e, hx0])
  subst hcs0
  obtain ⟨a1, len1, cap1, rfl⟩ := okWide_slice Tryd.underlying25 (hval 1 25 v1 rfl rfl)
  obtain ⟨fuel1, hf1⟩ := h1
  obtain ⟨u1, l1, ev1, hc1, hp1, hv1⟩ := open_Oms hf1 (hszj 1 _ _ rfl rfl)
  have ee1 : (Value.slice a1 len1 cap1).cells.toList = [Value.slice a1 len1 cap1] := rfl
  rw [ee1] at ev1
  simp only [List.cons.injEq, and_true] at ev1
  subst ev1
  obtain ⟨a2, len2, cap2, rfl⟩ := okWide_slice Tryd.underlying25 (hval 2 25 v2 rfl rfl)
  obtain ⟨fuel2, hf2⟩ := h2
  obtain ⟨u2, l2, ev2, hc2, hp2, hv2⟩ := open_Oms hf2 (hszj 2 _ _ rfl rfl)
  have ee2 : (Value.slice a2 len2 cap2).cells.toList = [Value.slice a2 len2 cap2] := rfl
  rw [ee2] at ev2
  simp only [List.cons.injEq, and_true] at ev2
  subst ev2
  obtain ⟨n3, rfl, rfl, rfl, w3⟩ := open_int Tryd.underlying3 (hval 3 3 v3 rfl rfl) h3
  obtain ⟨cs4, rfl, _⟩ := okWide_struct Tryd.underlying31 (hval 4 31 v4 rfl rfl)
  obtain ⟨fuel4, hf4⟩ := h4
  obtain ⟨x4, hx4, hq4⟩ := open_Vl hf4 (hszj 4 _ _ rfl rfl)
  have hcs4 : cs4 = (valV x4).toArray := Array.ext' (by have e : (Value.agg cs4).cells.toList = cs4.toList := rfl; rw [← e, hx4])
  subst hcs4
  refine (calls_true_ext (TxnGets_spec x0.1.1 (.slice a1 len1 cap1) (.slice a2 len2 cap2) x0.2 l1 l2 n3 x4 (orig W) hUT x0.1.2 hq0 ⟨hv1, fun o h => (hp1 o h).1, ld_len Tryd.underlying25 (of_decide_eq_true (by kernel_rfl)) hf1 rfl (hszj 1 _ _ rfl rfl) hv1⟩ ⟨hv2, fun o h => (hp2 o h).1, ld_len Tryd.underlying25 (of_decide_eq_true (by kernel_rfl)) hf2 rfl (hszj 2 _ _ rfl rfl) hv2⟩ (fun q h => (hp1 q h).2) (fun q h => (hp2 q h).2) hq4)).mono fun e W' ⟨he, hnx⟩ => ?_
  subst he
  refine ⟨_, rfl, _, _, _, [], p0 ++ p1 ++ p2 ++ [] ++ p4, [], hW', ?_, ?_, rfl, hnx.frame _, fun h => by cases h⟩
  · exact trodAll_mk1 (shut_bool Tryd.underlying4 true)
  · exact below_trodAll lf_laidOut hnx (by kernel_rfl) hA0 (fun x hx => by have := hW'.lt x (by simpa using hx); simpa using this)

/-- TxnGets, for every input: the row. -/
theorem txnGets_row : Rows.TxnGetsSaid :=
  OpenClaim.holds_of_wide 4 Tryd.f4 rfl rfl rfl rfl rfl rfl rfl ⟨rfl, rfl, rfl, rfl, rfl⟩ rfl rfl rfl rfl rfl (by kernel_rfl) Tryd.func4 (by kernel_rfl)
    (of_decide_eq_true (by kernel_rfl)) (by unfold Func.isWrapper; first | (rw [if_pos (by decide +kernel)]; kernel_rfl) | (rw [if_neg (by decide +kernel)]; exact ⟨rfl, rfl⟩))
    (fun os started H enc _ => txnGets_lifted os started H enc)
/-- TxnGets, for every input: the card, tied to the program's text. -/
theorem txnGets_holds : Rows.TxnGetsCardSaid :=
  Claim7.holds_tied_plain_at .later [] [.data, .pinned] true Rows.txnGetsCard.stood.harness Rows.txnGetsCard.stood.looks
    txnGets_row (fun _ h => by cases h) (by kernel_rfl) (fun _ h => by cases h) txnGets_row_tie rfl ⟨rfl, rfl⟩ (by kernel_rfl) rfl
    (fun f fn hf hfn => by
      obtain rfl : f = 4 := Option.some.inj ((show Tryd.prog.funcNamed "fascicle/fasciclelaw15.TxnGets" = some 4 by kernel_rfl).symm.trans hf) |>.symm
      obtain rfl : fn = Tryd.f4 := (Option.some.inj (Tryd.func4.symm.trans hfn)).symm
      exact ⟨by kernel_rfl, fun j t ht => by
        rw [Tryd.params4] at ht
        have hm : t ∈ [24, 25, 25, 3, 31] := by simpa using Array.mem_of_getElem? ht
        have hall : ([24, 25, 25, 3, 31].all fun u => !Tryd.prog.wantsStandIn u) = true := by kernel_rfl
        exact (show Tryd.prog.wantsStandIn t = false by simpa using List.all_eq_true.1 hall t hm)⟩)
    (by kernel_rfl)
end Go.Proofs.YtbagfdolcabniaaDoor

