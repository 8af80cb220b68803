import Derived.Test.YtphaegcoldpclaaDoorSbG
import Derived.Test.YtphaegcoldpclaaDoorLd
import Derived.Test.YtphaegcoldpclaaDoorCards
set_option linter.unusedSimpArgs false
set_option linter.unusedVariables false
set_option maxRecDepth 8000
namespace Go.Proofs.YtphaegcoldpclaaDoor
open Go Go.Fx Go.Proofs Go.Pl Go.ChangeShapes Go.WideShapes Go.ChangeAt Go.RowKit

structure CmG (P : HProp) (x : Cm) : Prop where
  r : CmR P x
  bl : x.bef.length ≤ 140737488355328 ∧ ∀ v ∈ x.bef, v.text.size ≤ 140737488355328
  al : x.aft.length ≤ 140737488355328 ∧ ∀ v ∈ x.aft, v.text.size ≤ 140737488355328
  wf : (∀ v ∈ x.bef, v.wf) ∧ ∀ v ∈ x.aft, v.wf
theorem open_Cm {H : Type} {enc : TypeId × Value → H} {W : World} {held : Bool} {fuel : Nat} {cs : List Value} {y : DataW H × List MemPlace} (h : DataW.trod enc Tryd.prog W 0 (fun _ => true) held fuel 51 cs = some y)
    (hw : ∀ k ∈ y.1.weights Tryd.prog 51, k ≤ reachBytes) : ∃ x : Cm, cs = cmV x ∧ CmG (orig W) x := by
  have hC : Tryd.prog.cellsOf 51 = 4 := by kernel_rfl
  have hrb : reachBytes ≤ 140737488355328 := by decide
  have c0 : Tryd.prog.cellsOf 5 = 1 := by kernel_rfl
  have c1 : Tryd.prog.cellsOf 3 = 1 := by kernel_rfl
  have c2 : Tryd.prog.cellsOf 49 = 1 := by kernel_rfl
  obtain ⟨xs, n, rfl, rfl, hl, hlen, hf⟩ := DataW.trod_struct Tryd.underlying51 h
  rw [hC] at hl
  match cs, hl with
  | [v0, v1, v2, v3], _ =>
    match xs, hlen with
    | [y0, y1, y2, y3], _ =>
      have h0 : DataW.trod enc Tryd.prog W 0 (fun _ => true) held n 5 (([v0, v1, v2, v3].drop 0).take (Tryd.prog.cellsOf 5)) = some y0 := hf 0 _ rfl
      rw [c0] at h0
      have h1 : DataW.trod enc Tryd.prog W 0 (fun _ => true) held n 3 (([v0, v1, v2, v3].drop 1).take (Tryd.prog.cellsOf 3)) = some y1 := hf 1 _ rfl
      rw [c1] at h1
      have h2 : DataW.trod enc Tryd.prog W 0 (fun _ => true) held n 49 (([v0, v1, v2, v3].drop 2).take (Tryd.prog.cellsOf 49)) = some y2 := hf 2 _ rfl
      rw [c2] at h2
      have h3 : DataW.trod enc Tryd.prog W 0 (fun _ => true) held n 49 (([v0, v1, v2, v3].drop 3).take (Tryd.prog.cellsOf 49)) = some y3 := hf 3 _ rfl
      rw [c2] at h3
      obtain ⟨a0, e0, _, w0⟩ := DataW.trod_int Tryd.underlying5 h0
      obtain ⟨a1, e1, _, w1⟩ := DataW.trod_int Tryd.underlying3 h1
      simp only [List.drop_succ_cons, List.drop_zero, List.take_succ_cons, List.take_zero, List.cons.injEq, and_true] at e0 e1 h2 h3
      subst e0 e1
      simp only [List.map_cons, List.map_nil, DataW.weights, Tryd.underlying51, DataW.weightsEach, List.mem_append, List.mem_cons] at hw
      have q2 := open_Vls h2 (fun k hk => hw k (.inr (.inr (.inl hk))))
      have q3 := open_Vls h3 (fun k hk => hw k (.inr (.inr (.inr (.inl hk)))))
      obtain ⟨v, l, em, hcap, hz, hv⟩ := q2
      simp only [List.cons.injEq, and_true] at em
      subst em
      have h1c : v2.oneCell' = true := by
        obtain ⟨_, _, _, rfl, _⟩ := hcap
        rfl
      obtain ⟨v', l', em', hcap', hz', hv'⟩ := q3
      simp only [List.cons.injEq, and_true] at em'
      subst em'
      have h2c : v3.oneCell' = true := by
        obtain ⟨_, _, _, rfl, _⟩ := hcap'
        rfl
      exact ⟨⟨a0, a1, ⟨v2, h1c⟩, l, ⟨v3, h2c⟩, l'⟩, rfl, ⟨hv, hv'⟩, ⟨ld_len Tryd.underlying49 (of_decide_eq_true (by kernel_rfl)) h2 rfl (fun k hk => hw k (.inr (.inr (.inl hk)))) hv, fun v hv => (hz v hv).t⟩, ⟨ld_len Tryd.underlying49 (of_decide_eq_true (by kernel_rfl)) h3 rfl (fun k hk => hw k (.inr (.inr (.inr (.inl hk))))) hv', fun v hv => (hz' v hv).t⟩, hz, hz'⟩

instance : Inhabited Cm := ⟨⟨0, 0, ⟨.slice none 0 0, rfl⟩, [], ⟨.slice none 0 0, rfl⟩, []⟩⟩
theorem open_Cms {H : Type} {enc : TypeId × Value → H} {W : World} {held : Bool} {fuel : Nat} {cs : List Value} {y : DataW H × List MemPlace} (h : DataW.trod enc Tryd.prog W 0 (fun _ => true) held fuel 29 cs = some y)
    (hw : ∀ k ∈ y.1.weights Tryd.prog 29, k ≤ reachBytes) : ∃ (v : Value) (l : List Cm), cs = [v] ∧ capOk v ∧ (∀ x ∈ l, (fun x : Cm => CmG (orig W) x) x) ∧ Vw (orig W) 4 v (l.map cmV) :=
  open_viewC (e := 51) (n := 4) Tryd.underlying29 (by kernel_rfl) (by decide) h hw cmV (fun x : Cm => CmG (orig W) x) (fun x => ⟨rfl, by simp only [cmV, oneCells, List.all_cons, List.all_nil, x.bv.2, x.av.2, Bool.and_true]; rfl⟩) (fun fuel cs y h hw => open_Cm h hw)

theorem open_Sq {H : Type} {enc : TypeId × Value → H} {W : World} {held : Bool} {fuel : Nat} {cs : List Value} {y : DataW H × List MemPlace} (h : DataW.trod enc Tryd.prog W 0 (fun _ => true) held fuel 25 cs = some y)
    (hw : ∀ k ∈ y.1.weights Tryd.prog 25, k ≤ reachBytes) : ∃ x : Int, cs = sqV x ∧ 0 ≤ x := by
  obtain ⟨a, e, _, w⟩ := DataW.trod_int Tryd.underlying25 h
  exact ⟨a, e, (lf_u64 w).1⟩

theorem open_Sqs {H : Type} {enc : TypeId × Value → H} {W : World} {held : Bool} {fuel : Nat} {cs : List Value} {y : DataW H × List MemPlace} (h : DataW.trod enc Tryd.prog W 0 (fun _ => true) held fuel 26 cs = some y)
    (hw : ∀ k ∈ y.1.weights Tryd.prog 26, k ≤ reachBytes) : ∃ (v : Value) (l : List Int), cs = [v] ∧ capOk v ∧ (∀ x ∈ l, (fun x : Int => 0 ≤ x) x) ∧ Vw (orig W) 1 v (l.map sqV) :=
  open_viewC (e := 25) (n := 1) Tryd.underlying26 (by kernel_rfl) (by decide) h hw sqV (fun x : Int => 0 ≤ x) (fun x => ⟨rfl, rfl⟩) (fun fuel cs y h hw => open_Sq h hw)

def plV (x : Int × V1s × List Int) : List Value := [.int .u64 x.1, x.2.1.1]
theorem open_Pl {H : Type} {enc : TypeId × Value → H} {W : World} {held : Bool} {fuel : Nat} {cs : List Value} {y : DataW H × List MemPlace} (h : DataW.trod enc Tryd.prog W 0 (fun _ => true) held fuel 28 cs = some y)
    (hw : ∀ k ∈ y.1.weights Tryd.prog 28, k ≤ reachBytes) : ∃ x : Int × V1s × List Int, cs = plV x ∧ 0 ≤ x.1 ∧ Vw (orig W) 1 x.2.1.1 (x.2.2.map sqV) ∧ ∀ q ∈ x.2.2, 0 ≤ q := by
  have hC : Tryd.prog.cellsOf 28 = 2 := by kernel_rfl
  have hrb : reachBytes ≤ 140737488355328 := by decide
  have c0 : Tryd.prog.cellsOf 25 = 1 := by kernel_rfl
  have c1 : Tryd.prog.cellsOf 26 = 1 := by kernel_rfl
  obtain ⟨xs, n, rfl, rfl, hl, hlen, hf⟩ := DataW.trod_struct Tryd.underlying28 h
  rw [hC] at hl
  match cs, hl with
  | [v0, v1], _ =>
    match xs, hlen with
    | [y0, y1], _ =>
      have h0 : DataW.trod enc Tryd.prog W 0 (fun _ => true) held n 25 (([v0, v1].drop 0).take (Tryd.prog.cellsOf 25)) = some y0 := hf 0 _ rfl
      rw [c0] at h0
      have h1 : DataW.trod enc Tryd.prog W 0 (fun _ => true) held n 26 (([v0, v1].drop 1).take (Tryd.prog.cellsOf 26)) = some y1 := hf 1 _ rfl
      rw [c1] at h1
      obtain ⟨a0, e0, _, w0⟩ := DataW.trod_int Tryd.underlying25 h0
      simp only [List.drop_succ_cons, List.drop_zero, List.take_succ_cons, List.take_zero, List.cons.injEq, and_true] at e0 h1
      subst e0
      simp only [List.map_cons, List.map_nil, DataW.weights, Tryd.underlying28, DataW.weightsEach, List.mem_append, List.mem_cons] at hw
      have q1 := open_Sqs h1 (fun k hk => hw k (.inr (.inl hk)))
      obtain ⟨v, l, em, hcap, hz, hv⟩ := q1
      simp only [List.cons.injEq, and_true] at em
      subst em
      have h1c : v1.oneCell' = true := by
        obtain ⟨_, _, _, rfl, _⟩ := hcap
        rfl
      exact ⟨(a0, ⟨v1, h1c⟩, l), rfl, (lf_u64 w0).1, hv, hz⟩

set_option maxRecDepth 100000 in
theorem streamBack_lifted (os : Os) (started : os.Started) (H : Type) (enc : TypeId × Value → H) :
    ReturnsInHanded {} Tryd.checked os 4 .any (fun w args => (Rows.streamBackSpec.pre enc Tryd.prog Tryd.f4 [] false w args ∧ laidMetH Tryd.prog Rows.streamBackRow.laid w) ∧ sizedMet enc Tryd.prog Tryd.f4 (OpenSpec.ofChange Rows.streamBackSpec) false w args)
      (Rows.streamBackSpec.post enc Tryd.prog Tryd.f4 false true false false) := by
  refine returnsInHanded_of_change_and (C := Tryd.checked) (X := (fun w _ => laidMetH Tryd.prog Rows.streamBackRow.laid w)) (fun _ _ _ hh h => h.of_heap hh) lf_own started (by kernel_rfl) Tryd.func4
    (ChangeSpec.witness_shaped (enc := enc) (C := Tryd.checked) (os := os) (X := (fun w _ => laidMetH Tryd.prog Rows.streamBackRow.laid w)) false (World.laidAll Tryd.prog os Rows.streamBackRow.laid) #[.agg #[.slice none 0 0], .agg #[.int .u64 0, .slice none 0 0], .int .u64 0, .slice none 0 0] 8 (World.laidAll_os _ _ _)
      (World.shaped_of_ZipB (by kernel_rfl) (by kernel_rfl)) (by kernel_rfl) (by kernel_rfl) (by kernel_rfl)
      (by rw [MakeChecks.laidMetH_plain _ _ _ (by kernel_rfl)]; exact laidMet_laidAll _ (by kernel_rfl) (by kernel_rfl))) ?_
  intro W base args ds gs before hval0 hW _ hsz hL _
  have hUT : UT (orig W) := ld_ut hL
  have hval : ∀ (j : Nat) t v, Tryd.f4.params[j]? = some t → args[j]? = some v → Value.okWide Tryd.prog W .any base t v := hval0
  have hW' := hW
  obtain ⟨p, q, hA0, hV, rfl, _, _⟩ := hW
  have hA : DataW.TrodAll enc Tryd.prog W 0 (fun _ => true) true Tryd.f4.params.toList args.toList ds p := hA0
  rw [Tryd.params4] at hA hval
  obtain ⟨v0, v1, v2, v3, d0, d1, d2, d3, p0, p1, p2, p3, rfl, rfl, rfl, h0, h1, h2, h3⟩ := trodAll_four hA
  obtain ⟨rfl, rfl⟩ := trodVars_none hV
  have hsz' : (DataW.weightsEach Tryd.prog [24, 28, 25, 29] [d0, d1, d2, d3]).all (· ≤ reachBytes) = true := hsz
  have hszj : ∀ (j : Nat) t d, [24, 28, 25, 29][j]? = some t → [d0, d1, d2, d3][j]? = some d → ∀ k ∈ d.weights Tryd.prog t, k ≤ reachBytes := fun j t d ht hd k hk => by
    have := List.all_eq_true.1 hsz' k (DataW.weights_mem_each (j := j) ht hd k hk)
    simpa using this
  obtain ⟨cs0, rfl, _⟩ := okWide_struct Tryd.underlying24 (hval 0 24 v0 rfl rfl)
  obtain ⟨fuel0, hf0⟩ := h0
  obtain ⟨x0, hx0, hq0⟩ := open_Sc hf0 (hszj 0 _ _ rfl rfl)
  have hcs0 : cs0 = (scV x0).toArray := Array.ext' (by have e : (Value.agg cs0).cells.toList = cs0.toList := rfl; rw [← e, hx0])
  subst hcs0
  obtain ⟨cs1, rfl, _⟩ := okWide_struct Tryd.underlying28 (hval 1 28 v1 rfl rfl)
  obtain ⟨fuel1, hf1⟩ := h1
  obtain ⟨x1, hx1, hq1⟩ := open_Pl hf1 (hszj 1 _ _ rfl rfl)
  have hcs1 : cs1 = (plV x1).toArray := Array.ext' (by have e : (Value.agg cs1).cells.toList = cs1.toList := rfl; rw [← e, hx1])
  subst hcs1
  obtain ⟨n2, rfl, rfl, rfl, w2⟩ := open_int Tryd.underlying25 (hval 2 25 v2 rfl rfl) h2
  obtain ⟨a3, len3, cap3, rfl⟩ := okWide_slice Tryd.underlying29 (hval 3 29 v3 rfl rfl)
  obtain ⟨fuel3, hf3⟩ := h3
  obtain ⟨u3, l3, ev3, hc3, hp3, hv3⟩ := open_Cms hf3 (hszj 3 _ _ rfl rfl)
  have ee3 : (Value.slice a3 len3 cap3).cells.toList = [Value.slice a3 len3 cap3] := rfl
  rw [ee3] at ev3
  simp only [List.cons.injEq, and_true] at ev3
  subst ev3
  refine (calls_true_ext (StreamBack_spec x0.1.1 x1.2.1.1 (.slice a3 len3 cap3) x0.2 x1.1 n2 x1.2.2 l3 (orig W) hUT x0.1.2 hq0 hq1.2.1 ⟨hv3, fun x h => (hp3 x h).r, fun x h => (hp3 x h).bl, fun x h => (hp3 x h).al, ld_len Tryd.underlying29 (of_decide_eq_true (by kernel_rfl)) hf3 rfl (hszj 3 _ _ rfl rfl) hv3⟩ hc3 (fun x h => (hp3 x h).wf) hq1.1 (lf_u64 w2).1 (by have := (lf_u64 w2).2; omega) hq1.2.2)).mono fun e W' ⟨he, hnx⟩ => ?_
  subst he
  refine ⟨_, rfl, _, _, _, [], p0 ++ p1 ++ [] ++ p3, [], hW', ?_, ?_, rfl, hnx.frame _, fun h => by cases h⟩
  · exact trodAll_mk1 (shut_bool Tryd.underlying4 true)
  · exact below_trodAll lf_laidOut hnx (by kernel_rfl) hA0 (fun x hx => by have := hW'.lt x (by simpa using hx); simpa using this)

theorem streamBack_row : Rows.StreamBackSaid :=
  OpenClaim.holds_of_wide 4 Tryd.f4 rfl rfl rfl rfl rfl rfl rfl ⟨rfl, rfl, rfl, rfl, rfl⟩ rfl rfl rfl rfl rfl (by kernel_rfl) Tryd.func4 (by kernel_rfl)
    (of_decide_eq_true (by kernel_rfl)) (by unfold Func.isWrapper; first | (rw [if_pos (by decide +kernel)]; kernel_rfl) | (rw [if_neg (by decide +kernel)]; exact ⟨rfl, rfl⟩))
    (fun os started H enc _ => streamBack_lifted os started H enc)
theorem streamBack_holds : Rows.StreamBackCardSaid :=
  Claim7.holds_tied_plain_at .later [] [.data, .pinned] true Rows.streamBackCard.stood.harness Rows.streamBackCard.stood.looks
    streamBack_row (fun _ h => by cases h) (by kernel_rfl) (fun _ h => by cases h) streamBack_row_tie rfl ⟨rfl, rfl⟩ (by kernel_rfl) rfl
    (fun f fn hf hfn => by
      obtain rfl : f = 4 := Option.some.inj ((show Tryd.prog.funcNamed "fascicle/fasciclelaw20.StreamBack" = some 4 by kernel_rfl).symm.trans hf) |>.symm
      obtain rfl : fn = Tryd.f4 := (Option.some.inj (Tryd.func4.symm.trans hfn)).symm
      exact ⟨by kernel_rfl, fun j t ht => by
        rw [Tryd.params4] at ht
        have hm : t ∈ [24, 28, 25, 29] := by simpa using Array.mem_of_getElem? ht
        have hall : ([24, 28, 25, 29].all fun u => !Tryd.prog.wantsStandIn u) = true := by kernel_rfl
        exact (show Tryd.prog.wantsStandIn t = false by simpa using List.all_eq_true.1 hall t hm)⟩)
    (by kernel_rfl)
end Go.Proofs.YtphaegcoldpclaaDoor

