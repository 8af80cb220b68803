/- TxnNil: for every input the law returns true, and each argument reads behind the call as it read before; the card, tied to the program's text. Conditions: the row's own (the two tables of utf8 as the program's text lays them). -/
import Derived.Test.YtbagfdolcabniaaDoorTnlA
import Derived.Test.YtbagfdolcabniaaDoorLd
import Derived.Test.YtbagfdolcabniaaDoorCards
set_option linter.unusedSimpArgs false
set_option linter.unusedVariables false
set_option maxRecDepth 8000
namespace Go.Proofs.YtbagfdolcabniaaDoor
open Go Go.Fx Go.Proofs Go.Pl Go.ChangeShapes Go.WideShapes Go.ChangeAt Go.RowKit

set_option maxRecDepth 100000 in
theorem txnNil_lifted (os : Os) (started : os.Started) (H : Type) (enc : TypeId × Value → H) :
    ReturnsInHanded {} Tryd.checked os 6 .any (fun w args => (Rows.txnNilSpec.pre enc Tryd.prog Tryd.f6 [] false w args ∧ laidMetH Tryd.prog Rows.txnNilRow.laid w) ∧ sizedMet enc Tryd.prog Tryd.f6 (OpenSpec.ofChange Rows.txnNilSpec) false w args)
      (Rows.txnNilSpec.post enc Tryd.prog Tryd.f6 false true false false) := by
  refine returnsInHanded_of_change_and (C := Tryd.checked) (X := (fun w _ => laidMetH Tryd.prog Rows.txnNilRow.laid w)) (fun _ _ _ hh h => h.of_heap hh) lf_own started (by kernel_rfl) Tryd.func6
    (ChangeSpec.witness_shaped (enc := enc) (C := Tryd.checked) (os := os) (X := (fun w _ => laidMetH Tryd.prog Rows.txnNilRow.laid w)) false (World.laidAll Tryd.prog os Rows.txnNilRow.laid) #[.agg #[.int .u8 0, .int .i64 0, .slice none 0 0], .int .i64 0, .agg #[.int .u8 0, .int .i64 0, .int .u64 0, .string ⟨#[]⟩]] 8 (World.laidAll_os _ _ _)
      (World.shaped_of_ZipB (by kernel_rfl) (by kernel_rfl)) (by kernel_rfl) (by kernel_rfl) (by kernel_rfl)
      (by rw [MakeChecks.laidMetH_plain _ _ _ (by kernel_rfl)]; exact laidMet_laidAll _ (by kernel_rfl) (by kernel_rfl))) ?_
  intro W base args ds gs before hval0 hW _ hsz hL _
  have hUT : UT (orig W) := ld_ut hL
  have hval : ∀ (j : Nat) t v, Tryd.f6.params[j]? = some t → args[j]? = some v → Value.okWide Tryd.prog W .any base t v := hval0
  have hW' := hW
  obtain ⟨p, q, hA0, hV, rfl, _, _⟩ := hW
  have hA : DataW.TrodAll enc Tryd.prog W 0 (fun _ => true) true Tryd.f6.params.toList args.toList ds p := hA0
  rw [Tryd.params6] at hA hval
  obtain ⟨v0, v1, v2, d0, d1, d2, p0, p1, p2, rfl, rfl, rfl, h0, h1, h2⟩ := trodAll_three hA
  obtain ⟨rfl, rfl⟩ := trodVars_none hV
  have hsz' : (DataW.weightsEach Tryd.prog [28, 3, 31] [d0, d1, d2]).all (· ≤ reachBytes) = true := hsz
  have hszj : ∀ (j : Nat) t d, [28, 3, 31][j]? = some t → [d0, d1, d2][j]? = some d → ∀ k ∈ d.weights Tryd.prog t, k ≤ reachBytes := fun j t d ht hd k hk => by
    have := List.all_eq_true.1 hsz' k (DataW.weights_mem_each (j := j) ht hd k hk)
    simpa using this
  obtain ⟨cs0, rfl, _⟩ := okWide_struct Tryd.underlying28 (hval 0 28 v0 rfl rfl)
  obtain ⟨fuel0, hf0⟩ := h0
  obtain ⟨x0, hx0, hq0⟩ := open_Om hf0 (hszj 0 _ _ rfl rfl)
  have hcs0 : cs0 = (opV x0).toArray := Array.ext' (by have e : (Value.agg cs0).cells.toList = cs0.toList := rfl; rw [← e, hx0])
  subst hcs0
  obtain ⟨n1, rfl, rfl, rfl, w1⟩ := open_int Tryd.underlying3 (hval 1 3 v1 rfl rfl) h1
  obtain ⟨cs2, rfl, _⟩ := okWide_struct Tryd.underlying31 (hval 2 31 v2 rfl rfl)
  obtain ⟨fuel2, hf2⟩ := h2
  obtain ⟨x2, hx2, hq2⟩ := open_Vl hf2 (hszj 2 _ _ rfl rfl)
  have hcs2 : cs2 = (valV x2).toArray := Array.ext' (by have e : (Value.agg cs2).cells.toList = cs2.toList := rfl; rw [← e, hx2])
  subst hcs2
  refine (calls_true_ext (TxnNil_spec x0 n1 x2 (orig W) hUT hq0.1 hq2.t)).mono fun e W' ⟨he, hnx⟩ => ?_
  subst he
  refine ⟨_, rfl, _, _, _, [], p0 ++ [] ++ p2, [], hW', ?_, ?_, rfl, hnx.frame _, fun h => by cases h⟩
  · exact trodAll_mk1 (shut_bool Tryd.underlying4 true)
  · exact below_trodAll lf_laidOut hnx (by kernel_rfl) hA0 (fun x hx => by have := hW'.lt x (by simpa using hx); simpa using this)

/-- TxnNil, for every input: the row. -/
theorem txnNil_row : Rows.TxnNilSaid :=
  OpenClaim.holds_of_wide 6 Tryd.f6 rfl rfl rfl rfl rfl rfl rfl ⟨rfl, rfl, rfl, rfl, rfl⟩ rfl rfl rfl rfl rfl (by kernel_rfl) Tryd.func6 (by kernel_rfl)
    (of_decide_eq_true (by kernel_rfl)) (by unfold Func.isWrapper; first | (rw [if_pos (by decide +kernel)]; kernel_rfl) | (rw [if_neg (by decide +kernel)]; exact ⟨rfl, rfl⟩))
    (fun os started H enc _ => txnNil_lifted os started H enc)
/-- TxnNil, for every input: the card, tied to the program's text. -/
theorem txnNil_holds : Rows.TxnNilCardSaid :=
  Claim7.holds_tied_plain_at .later [] [.data, .pinned] true Rows.txnNilCard.stood.harness Rows.txnNilCard.stood.looks
    txnNil_row (fun _ h => by cases h) (by kernel_rfl) (fun _ h => by cases h) txnNil_row_tie rfl ⟨rfl, rfl⟩ (by kernel_rfl) rfl
    (fun f fn hf hfn => by
      obtain rfl : f = 6 := Option.some.inj ((show Tryd.prog.funcNamed "fascicle/fasciclelaw15.TxnNil" = some 6 by kernel_rfl).symm.trans hf) |>.symm
      obtain rfl : fn = Tryd.f6 := (Option.some.inj (Tryd.func6.symm.trans hfn)).symm
      exact ⟨by kernel_rfl, fun j t ht => by
        rw [Tryd.params6] at ht
        have hm : t ∈ [28, 3, 31] := by simpa using Array.mem_of_getElem? ht
        have hall : ([28, 3, 31].all fun u => !Tryd.prog.wantsStandIn u) = true := by kernel_rfl
        exact (show Tryd.prog.wantsStandIn t = false by simpa using List.all_eq_true.1 hall t hm)⟩)
    (by kernel_rfl)
end Go.Proofs.YtbagfdolcabniaaDoor

