/- AggSizes: for every input the law returns true, and each argument reads behind the call as it read before; the card, tied to the program's text. Conditions: the row's own (the two tables of utf8 as the program's text lays them). -/
import Derived.Test.YtphaegcoldpclaaDoorPhS
import Derived.Test.YtphaegcoldpclaaDoorG1
import Derived.Test.YtphaegcoldpclaaDoorLd
import Derived.Test.YtphaegcoldpclaaDoorCards
set_option linter.unusedSimpArgs false
set_option linter.unusedVariables false
set_option maxRecDepth 8000
namespace Go.Proofs.YtphaegcoldpclaaDoor
open Go Go.Fx Go.Proofs Go.Pl Go.ChangeShapes Go.WideShapes Go.ChangeAt Go.RowKit

instance : Inhabited Dm := ⟨.mk 0 ⟨.slice none 0 0, rfl⟩ [] ⟨.slice none 0 0, rfl⟩ []⟩
theorem open_Doc0 {H : Type} {enc : TypeId × Value → H} {W : World} {held : Bool} (N : Nat) (ih : ∀ (fuel : Nat) (cs : List Value) (y : DataW H × List MemPlace), DataW.trod enc Tryd.prog W 0 (fun _ => true) held fuel 64 cs = some y → (∀ k ∈ y.1.weights Tryd.prog 64, k ≤ reachBytes) → SizeOf.sizeOf y.1 < N → ∃ x : Dm, cs = docV x ∧ DocR (orig W) x) {fuel : Nat} {cs : List Value} {y : DataW H × List MemPlace} (hN : SizeOf.sizeOf y.1 ≤ N) (h : DataW.trod enc Tryd.prog W 0 (fun _ => true) held fuel 64 cs = some y)
    (hw : ∀ k ∈ y.1.weights Tryd.prog 64, k ≤ reachBytes) : ∃ x : Dm, cs = docV x ∧ DocR (orig W) x := by
  have hC : Tryd.prog.cellsOf 64 = 3 := by kernel_rfl
  have hrb : reachBytes ≤ 140737488355328 := by decide
  have c0 : Tryd.prog.cellsOf 3 = 1 := by kernel_rfl
  have c1 : Tryd.prog.cellsOf 49 = 1 := by kernel_rfl
  have c2 : Tryd.prog.cellsOf 62 = 1 := by kernel_rfl
  obtain ⟨xs, n, rfl, rfl, hl, hlen, hf⟩ := DataW.trod_struct Tryd.underlying64 h
  rw [hC] at hl
  match cs, hl with
  | [v0, v1, v2], _ =>
    match xs, hlen with
    | [y0, y1, y2], _ =>
      have h0 : DataW.trod enc Tryd.prog W 0 (fun _ => true) held n 3 (([v0, v1, v2].drop 0).take (Tryd.prog.cellsOf 3)) = some y0 := hf 0 _ rfl
      rw [c0] at h0
      have h1 : DataW.trod enc Tryd.prog W 0 (fun _ => true) held n 49 (([v0, v1, v2].drop 1).take (Tryd.prog.cellsOf 49)) = some y1 := hf 1 _ rfl
      rw [c1] at h1
      have h2 : DataW.trod enc Tryd.prog W 0 (fun _ => true) held n 62 (([v0, v1, v2].drop 2).take (Tryd.prog.cellsOf 62)) = some y2 := hf 2 _ rfl
      rw [c2] at h2
      obtain ⟨a0, e0, _, w0⟩ := DataW.trod_int Tryd.underlying3 h0
      simp only [List.drop_succ_cons, List.drop_zero, List.take_succ_cons, List.take_zero, List.cons.injEq, and_true] at e0 h1 h2
      subst e0
      simp only [List.map_cons, List.map_nil, DataW.weights, Tryd.underlying64, DataW.weightsEach, List.mem_append, List.mem_cons] at hw
      have q1 := open_Vls h1 (fun k hk => hw k (.inr (.inl hk)))
      have q2 := open_viewE (e := 64) (n := 3) (S := N) Tryd.underlying62 (by kernel_rfl) (by decide) h2 (fun k hk => hw k (.inr (.inr (.inl hk)))) docV (fun x : Dm => DocR (orig W) x) (fun x => by obtain ⟨t, lv, row, kv, kids⟩ := x; exact ⟨rfl, by simp only [docV, oneCells, List.all_cons, List.all_nil, lv.2, kv.2, Bool.and_true]; rfl⟩) ih (by simp only [List.map_cons, List.map_nil, DataW.agg.sizeOf_spec, List.cons.sizeOf_spec] at hN; omega)
      obtain ⟨v, l, em, hcap, hz, hv⟩ := q1
      simp only [List.cons.injEq, and_true] at em
      subst em
      have h1c : v1.oneCell' = true := by
        obtain ⟨_, _, _, rfl, _⟩ := hcap
        rfl
      obtain ⟨v', l', em', hcap', hz', hv'⟩ := q2
      simp only [List.cons.injEq, and_true] at em'
      subst em'
      have h2c : v2.oneCell' = true := by
        obtain ⟨_, _, _, rfl, _⟩ := hcap'
        rfl
      exact ⟨.mk a0 ⟨v1, h1c⟩ l ⟨v2, h2c⟩ l', rfl, .mk hv hv' hz' (ld_len Tryd.underlying49 (of_decide_eq_true (by kernel_rfl)) h1 rfl (fun k hk => hw k (.inr (.inl hk))) hv) (ld_len Tryd.underlying62 (of_decide_eq_true (by kernel_rfl)) h2 rfl (fun k hk => hw k (.inr (.inr (.inl hk)))) hv') (fun v hv => (hz v hv).t)⟩

theorem open_Doc {H : Type} {enc : TypeId × Value → H} {W : World} {held : Bool} : ∀ (N : Nat) {fuel : Nat} {cs : List Value} {y : DataW H × List MemPlace}, SizeOf.sizeOf y.1 ≤ N → DataW.trod enc Tryd.prog W 0 (fun _ => true) held fuel 64 cs = some y → (∀ k ∈ y.1.weights Tryd.prog 64, k ≤ reachBytes) → ∃ x : Dm, cs = docV x ∧ DocR (orig W) x
  | 0, fuel, cs, y, hN, h, hw => open_Doc0 0 (fun _ _ _ _ _ hn => absurd hn (Nat.not_lt_zero _)) hN h hw
  | N + 1, fuel, cs, y, hN, h, hw => open_Doc0 (N + 1) (fun _ _ _ h hw hn => open_Doc N (Nat.le_of_lt_succ hn) h hw) hN h hw
theorem open_DocD {H : Type} {enc : TypeId × Value → H} {W : World} {held : Bool} {fuel : Nat} {cs : List Value} {y : DataW H × List MemPlace} (h : DataW.trod enc Tryd.prog W 0 (fun _ => true) held fuel 64 cs = some y) (hw : ∀ k ∈ y.1.weights Tryd.prog 64, k ≤ reachBytes) : ∃ x : Dm, cs = docV x ∧ DocR (orig W) x := open_Doc _ (Nat.le_refl _) h hw
set_option maxRecDepth 100000 in
theorem aggSizes_lifted (os : Os) (started : os.Started) (H : Type) (enc : TypeId × Value → H) :
    ReturnsInHanded {} Tryd.checked os 5 .any (fun w args => (Rows.aggSizesSpec.pre enc Tryd.prog Tryd.f5 [] false w args ∧ laidMetH Tryd.prog Rows.aggSizesRow.laid w) ∧ sizedMet enc Tryd.prog Tryd.f5 (OpenSpec.ofChange Rows.aggSizesSpec) false w args)
      (Rows.aggSizesSpec.post enc Tryd.prog Tryd.f5 false true false false) := by
  refine returnsInHanded_of_change_and (C := Tryd.checked) (X := (fun w _ => laidMetH Tryd.prog Rows.aggSizesRow.laid w)) (fun _ _ _ hh h => h.of_heap hh) lf_own started (by kernel_rfl) Tryd.func5
    (ChangeSpec.witness_shaped (enc := enc) (C := Tryd.checked) (os := os) (X := (fun w _ => laidMetH Tryd.prog Rows.aggSizesRow.laid w)) false (World.laidAll Tryd.prog os Rows.aggSizesRow.laid) #[.agg #[.int .i64 0, .slice none 0 0, .slice none 0 0], .agg #[.int .i64 0, .slice none 0 0, .slice none 0 0]] 8 (World.laidAll_os _ _ _)
      (World.shaped_of_ZipB (by kernel_rfl) (by kernel_rfl)) (by kernel_rfl) (by kernel_rfl) (by kernel_rfl)
      (by rw [MakeChecks.laidMetH_plain _ _ _ (by kernel_rfl)]; exact laidMet_laidAll _ (by kernel_rfl) (by kernel_rfl))) ?_
  intro W base args ds gs before hval0 hW _ hsz hL _
  have hUT : UT (orig W) := ld_ut hL
  have hval : ∀ (j : Nat) t v, Tryd.f5.params[j]? = some t → args[j]? = some v → Value.okWide Tryd.prog W .any base t v := hval0
  have hW' := hW
  obtain ⟨p, q, hA0, hV, rfl, _, _⟩ := hW
  have hA : DataW.TrodAll enc Tryd.prog W 0 (fun _ => true) true Tryd.f5.params.toList args.toList ds p := hA0
  rw [Tryd.params5] at hA hval
  obtain ⟨v0, v1, d0, d1, p0, p1, rfl, rfl, rfl, h0, h1⟩ := trodAll_two hA
  obtain ⟨rfl, rfl⟩ := trodVars_none hV
  have hsz' : (DataW.weightsEach Tryd.prog [64, 64] [d0, d1]).all (· ≤ reachBytes) = true := hsz
  have hszj : ∀ (j : Nat) t d, [64, 64][j]? = some t → [d0, d1][j]? = some d → ∀ k ∈ d.weights Tryd.prog t, k ≤ reachBytes := fun j t d ht hd k hk => by
    have := List.all_eq_true.1 hsz' k (DataW.weights_mem_each (j := j) ht hd k hk)
    simpa using this
  obtain ⟨cs0, rfl, _⟩ := okWide_struct Tryd.underlying64 (hval 0 64 v0 rfl rfl)
  obtain ⟨fuel0, hf0⟩ := h0
  obtain ⟨x0, hx0, hq0⟩ := open_DocD hf0 (hszj 0 _ _ rfl rfl)
  have hcs0 : cs0 = (docV x0).toArray := Array.ext' (by have e : (Value.agg cs0).cells.toList = cs0.toList := rfl; rw [← e, hx0])
  subst hcs0
  obtain ⟨cs1, rfl, _⟩ := okWide_struct Tryd.underlying64 (hval 1 64 v1 rfl rfl)
  obtain ⟨fuel1, hf1⟩ := h1
  obtain ⟨x1, hx1, hq1⟩ := open_DocD hf1 (hszj 1 _ _ rfl rfl)
  have hcs1 : cs1 = (docV x1).toArray := Array.ext' (by have e : (Value.agg cs1).cells.toList = cs1.toList := rfl; rw [← e, hx1])
  subst hcs1
  refine (calls_true_ext (AggSizes_spec x0 x1 (orig W) hUT hq0 hq1)).mono fun e W' ⟨he, hnx⟩ => ?_
  subst he
  refine ⟨_, rfl, _, _, _, [], p0 ++ p1, [], hW', ?_, ?_, rfl, hnx.frame _, fun h => by cases h⟩
  · exact trodAll_mk1 (shut_bool Tryd.underlying4 true)
  · exact below_trodAll lf_laidOut hnx (by kernel_rfl) hA0 (fun x hx => by have := hW'.lt x (by simpa using hx); simpa using this)

/-- AggSizes, for every input: the row. -/
theorem aggSizes_row : Rows.AggSizesSaid :=
  OpenClaim.holds_of_wide 5 Tryd.f5 rfl rfl rfl rfl rfl rfl rfl ⟨rfl, rfl, rfl, rfl, rfl⟩ rfl rfl rfl rfl rfl (by kernel_rfl) Tryd.func5 (by kernel_rfl)
    (of_decide_eq_true (by kernel_rfl)) (by unfold Func.isWrapper; first | (rw [if_pos (by decide +kernel)]; kernel_rfl) | (rw [if_neg (by decide +kernel)]; exact ⟨rfl, rfl⟩))
    (fun os started H enc _ => aggSizes_lifted os started H enc)
/-- AggSizes, for every input: the card, tied to the program's text. -/
theorem aggSizes_holds : Rows.AggSizesCardSaid :=
  Claim7.holds_tied_plain_at .later [] [.data, .pinned] true Rows.aggSizesCard.stood.harness Rows.aggSizesCard.stood.looks
    aggSizes_row (fun _ h => by cases h) (by kernel_rfl) (fun _ h => by cases h) aggSizes_row_tie rfl ⟨rfl, rfl⟩ (by kernel_rfl) rfl
    (fun f fn hf hfn => by
      obtain rfl : f = 5 := Option.some.inj ((show Tryd.prog.funcNamed "fascicle/fasciclelaw24.AggSizes" = some 5 by kernel_rfl).symm.trans hf) |>.symm
      obtain rfl : fn = Tryd.f5 := (Option.some.inj (Tryd.func5.symm.trans hfn)).symm
      exact ⟨by kernel_rfl, fun j t ht => by
        rw [Tryd.params5] at ht
        have hm : t ∈ [64, 64] := by simpa using Array.mem_of_getElem? ht
        have hall : ([64, 64].all fun u => !Tryd.prog.wantsStandIn u) = true := by kernel_rfl
        exact (show Tryd.prog.wantsStandIn t = false by simpa using List.all_eq_true.1 hall t hm)⟩)
    (by kernel_rfl)
end Go.Proofs.YtphaegcoldpclaaDoor

