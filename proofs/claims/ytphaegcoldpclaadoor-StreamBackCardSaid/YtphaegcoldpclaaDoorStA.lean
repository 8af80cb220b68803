import Derived.Test.YtphaegcoldpclaaDoorG7
import Derived.Test.YtphaegcoldpclaaDoorQbC
set_option linter.unusedSimpArgs false
set_option linter.unusedVariables false
set_option maxRecDepth 100000
namespace Go.Proofs.YtphaegcoldpclaaDoor
open Go Go.Fx Go.Proofs Go.Pl

theorem fits1_spec (x : Int) (A : HProp) : FSpec Tryd.prog 66 [.int .u64 x] [A] Unit (fun _ => True) (fun _ => .bool (decide (4611686018427387904 < x))) (fun _ => [A]) := by
  refine spec_intro [] _ Tryd.func66 rfl Tryd.ntmps66 (by rfl) (fun w0 R => ?_)
  repeat' (first | (refine go_Y ?_; intros) | (refine gs_Y ?_ ?_ <;> (intro hgd; try (simp only [Bool.not_true, Bool.not_false] at hgd))) | (refine gc_Y ?_ ?_ <;> intro _) | fail)
  (refine rt_Y (y := ()) (hrs := Tryd.results66) (hv := ?_) (hφ := ?_))
  · rfl
  · trivial
theorem idxQ_spec (fv u : Value) (A : HProp) (p : Int → Bool) (l : List Int) (hA : Vw A 1 u (l.map sqV)) (hf : ∀ s ∈ l, VSpec Tryd.prog fv [.int .u64 s] [A] Unit (fun _ => True) (fun _ => .bool (p s)) (fun _ => [A])) (hl : l.length ≤ 4611686018427387904) :
    FSpec Tryd.prog 91 [u, fv] [A] Int (fun y => decide (0 ≤ y) = l.any p) (fun y => .int .i64 y) (fun _ => [A]) := by
  refine spec_intro [] _ Tryd.func91 rfl Tryd.ntmps91 (by rfl) (fun w0 R => ?_)
  refine ok_learn (VwIn.slice (VwIn.here hA)) ?_
  rintro ⟨pu, cu, rfl⟩
  repeat' (first | (refine go_Y ?_; intros) | (refine gs_Y ?_ ?_ <;> (intro hgd; try (simp only [Bool.not_true, Bool.not_false] at hgd))) | (refine gc_Y ?_ ?_ <;> intro _) | fail)
  refine ok_loop' (γ := Nat) (fun n ρ L => n ≤ l.length ∧ (l.take n).any p = false ∧ Knows ρ [(0, .slice pu (l.map sqV).length cu), (1, fv), (7, .int .i64 (l.map sqV).length), (8, .int .i64 n)] ∧ L = [A] ++ R) (fun n => l.length - n) 0 ⟨by omega, rfl, ⟨rfl, rfl, rfl, rfl, trivial⟩, rfl⟩ ?_
  rintro n ρ L ⟨hn, hall, hk, rfl⟩
  refine ok_regs hk ?_
  have hlen : (l.map sqV).length = l.length := by simp
  cases t1 : decide ((n : Int) < ((l.map sqV).length : Int)) with
  | false =>
    have hn' : n = l.length := by simp at t1; omega
    have hfull : l.any p = false := by rw [hn', List.take_of_length_le (Nat.le_refl _)] at hall; exact hall
    repeat' (first | (refine go_Y ?_; intros) | (refine gs_Y ?_ ?_ <;> (intro hgd; try (simp only [Bool.not_true, Bool.not_false] at hgd))) | (refine gc_Y ?_ ?_ <;> intro _) | fail)
    (refine rt_Y (y := (-1)) (hrs := Tryd.results91) (hv := ?_) (hφ := ?_))
    · rfl
    · rw [hfull]; rfl
  | true =>
    have h : n < l.length := by simp at t1; omega
    have hx : (l.map sqV)[n]? = some (sqV l[n]) := by rw [List.getElem?_map, List.getElem?_eq_getElem h]; rfl
    have hn1 : n < (l.map sqV).length := by omega
    have htk : l.take (n + 1) = l.take n ++ [l[n]] := List.take_succ_eq_append_getElem h
    have hin : l[n] ∈ l := List.getElem_mem h
    have hfs := hf l[n] hin
    refine ok_learn (VwIn.base (VwIn.here hA) (by intro e; rw [e] at hn1; simp at hn1)) ?_
    rintro ⟨bu, ou, rfl⟩
    generalize l[n] = c at hx htk hin hfs
    dsimp only [sqV] at hx hfs
    repeat' (first | (refine go_Y ?_; intros) | (refine gs_Y ?_ ?_ <;> (intro hgd; try (simp only [Bool.not_true, Bool.not_false] at hgd))) | (refine gc_Y ?_ ?_ <;> intro _) | fail)
    refine clV_Y (hfs) ?_
    intro _ _
    cases hp : p c with
    | true =>
      repeat' (first | (refine go_Y ?_; intros) | (refine gs_Y ?_ ?_ <;> (intro hgd; try (simp only [Bool.not_true, Bool.not_false] at hgd))) | (refine gc_Y ?_ ?_ <;> intro _) | fail)
      (refine rt_Y (y := (n : Int)) (hrs := Tryd.results91) (hv := ?_) (hφ := ?_))
      · rfl
      · rw [List.any_eq_true.2 ⟨_, hin, hp⟩]; simp
    | false =>
      repeat' (first | (refine go_Y ?_; intros) | (refine gs_Y ?_ ?_ <;> (intro hgd; try (simp only [Bool.not_true, Bool.not_false] at hgd))) | (refine gc_Y ?_ ?_ <;> intro _) | fail)
      refine cont_back (n + 1) ⟨h, by rw [htk, List.any_append, hall]; simp [hp], ⟨rfl, rfl, rfl, rfl, trivial⟩, rfl⟩ (by omega)
theorem hasQ_spec (fv u : Value) (A : HProp) (p : Int → Bool) (l : List Int) (hA : Vw A 1 u (l.map sqV)) (hf : ∀ s ∈ l, VSpec Tryd.prog fv [.int .u64 s] [A] Unit (fun _ => True) (fun _ => .bool (p s)) (fun _ => [A])) (hl : l.length ≤ 4611686018427387904) :
    FSpec Tryd.prog 65 [u, fv] [A] Unit (fun _ => True) (fun _ => .bool (l.any p)) (fun _ => [A]) := by
  refine spec_intro [] _ Tryd.func65 rfl Tryd.ntmps65 (by rfl) (fun w0 R => ?_)
  repeat' (first | (refine go_Y ?_; intros) | (refine gs_Y ?_ ?_ <;> (intro hgd; try (simp only [Bool.not_true, Bool.not_false] at hgd))) | (refine gc_Y ?_ ?_ <;> intro _) | fail)
  refine cl_Y (idxQ_spec fv u A p l hA hf hl) ?_
  intro y hy
  repeat' (first | (refine go_Y ?_; intros) | (refine gs_Y ?_ ?_ <;> (intro hgd; try (simp only [Bool.not_true, Bool.not_false] at hgd))) | (refine gc_Y ?_ ?_ <;> intro _) | fail)
  rw [← hy]
  (refine rt_Y (y := ()) (hrs := Tryd.results65) (hv := ?_) (hφ := ?_))
  · rfl
  · trivial
theorem stFits_spec (m : Int) (qs : List Int) (vs uq : Value) (ts : List Tb) (A B : HProp) (hA : Vw A 5 vs (ts.map tbV)) (hB : Vw B 1 uq (qs.map sqV)) (hl : qs.length ≤ 4611686018427387904) :
    FSpec Tryd.prog 33 [.agg #[vs], .agg #[.int .u64 m, uq]] [A, B] Unit (fun _ => True) (fun _ => .bool (fitsP ts.length m qs)) (fun _ => [A, B]) := by
  have l1 : (ts.map tbV).length = ts.length := by simp
  have l2 : (qs.map sqV).length = qs.length := by simp
  have hfp : fitsP ts.length m qs = (decide (((qs.map sqV).length : Int) = ((ts.map tbV).length : Int)) && (decide (m ≤ 4611686018427387904) && !qs.any fun x => decide (4611686018427387904 < x))) := by
    unfold fitsP
    congr 1
    rw [l1, l2, decide_eq_decide]; omega
  rw [hfp]
  clear hfp
  refine fspec_lrn (fun R hh s => (VwIn.slice (VwIn.here hA)) hh s) ?_
  rintro ⟨pv, cv, rfl⟩
  refine fspec_lrn (fun R hh s => (VwIn.slice (VwIn.there (VwIn.here hB))) hh s) ?_
  rintro ⟨pq, cq, rfl⟩
  have hc := hasQ_spec (.func (.func 66) #[] #[]) (.slice pq (qs.map sqV).length cq) B (fun x => decide (4611686018427387904 < x)) qs hB (fun x _ => vspec_fn (fits1_spec x B)) hl
  generalize (qs.any fun x => decide (4611686018427387904 < x)) = q at hc
  cases c1 : decide (((qs.map sqV).length : Int) = ((ts.map tbV).length : Int)) with
  | false =>
    rw [Bool.false_and]
    refine spec_intro [] _ Tryd.func33 rfl Tryd.ntmps33 (by rfl) (fun w0 R => ?_)
    repeat' (first | (refine go_Y ?_; intros) | (refine gs_Y ?_ ?_ <;> (intro hgd; try (simp only [Bool.not_true, Bool.not_false] at hgd))) | (refine gc_Y ?_ ?_ <;> intro _) | fail)
    (refine rt_Y (y := ()) (hrs := Tryd.results33) (hv := ?_) (hφ := ?_))
    · rfl
    · trivial
  | true =>
  rw [Bool.true_and]
  cases c2 : decide (m ≤ 4611686018427387904) with
  | false =>
    rw [Bool.false_and]
    refine spec_intro [] _ Tryd.func33 rfl Tryd.ntmps33 (by rfl) (fun w0 R => ?_)
    repeat' (first | (refine go_Y ?_; intros) | (refine gs_Y ?_ ?_ <;> (intro hgd; try (simp only [Bool.not_true, Bool.not_false] at hgd))) | (refine gc_Y ?_ ?_ <;> intro _) | fail)
    (refine rt_Y (y := ()) (hrs := Tryd.results33) (hv := ?_) (hφ := ?_))
    · rfl
    · trivial
  | true =>
  rw [Bool.true_and]
  refine spec_intro [] _ Tryd.func33 rfl Tryd.ntmps33 (by rfl) (fun w0 R => ?_)
  repeat' (first | (refine go_Y ?_; intros) | (refine gs_Y ?_ ?_ <;> (intro hgd; try (simp only [Bool.not_true, Bool.not_false] at hgd))) | (refine gc_Y ?_ ?_ <;> intro _) | fail)
  refine cl_Y (hc) ?_
  intro _ _
  repeat' (first | (refine go_Y ?_; intros) | (refine gs_Y ?_ ?_ <;> (intro hgd; try (simp only [Bool.not_true, Bool.not_false] at hgd))) | (refine gc_Y ?_ ?_ <;> intro _) | fail)
  (refine rt_Y (y := ()) (hrs := Tryd.results33) (hv := ?_) (hφ := ?_))
  · rfl
  · trivial
def tpR (l : List BA) (j : Nat) : List (List Value) := (List.range l.length).map fun i => [.string (if i < j then gT l i else ⟨#[]⟩)]
theorem tpR_0 (l : List BA) : tpR l 0 = List.replicate l.length [.string ⟨#[]⟩] := by
  apply List.ext_getElem
  · simp [tpR]
  · intro i h1 h2
    simp [tpR]
theorem tpR_set (l : List BA) (k : Nat) (h : k < l.length) : (tpR l k).set k [.string (gT l k)] = tpR l (k + 1) := by
  apply List.ext_getElem
  · simp [tpR]
  · intro i h1 h2
    simp only [tpR, List.getElem_set, List.getElem_map, List.getElem_range]
    by_cases e : k = i
    · subst e; rw [if_pos rfl, if_pos (by omega)]
    · rw [if_neg e]
      by_cases c : i < k
      · rw [if_pos c, if_pos (by omega)]
      · rw [if_neg c, if_neg (by omega)]
theorem tpR_n (l : List BA) : tpR l l.length = l.map fun s => [.string s] := by
  apply List.ext_getElem
  · simp [tpR]
  · intro i h1 h2
    have : i < l.length := by simpa [tpR] using h1
    simp [tpR, this, gT]
theorem topics_bad (vs : Value) (ts : List Tb) (A : HProp) (h : SV A vs ts) (hc : checkS (ts.map Tb.c) = false) :
    FSpec Tryd.prog 13 [.agg #[vs]] [A] Unit (fun _ => True) (fun _ => .slice none 0 0) (fun _ => [A]) := by
  have e0 : (!decide ((2 : Int) = (0 : Int))) = true := by decide
  have hA := h.vw
  refine fspec_lrn (fun R hh s => (VwIn.slice (VwIn.here hA)) hh s) ?_
  rintro ⟨pv, cv, rfl⟩
  have hs := sCheck_spec _ ts A h
  rw [hc, if_neg (by decide)] at hs
  refine spec_intro [] _ Tryd.func13 rfl Tryd.ntmps13 (by rfl) (fun w0 R => ?_)
  repeat' (first | (refine go_Y ?_; intros) | (refine gs_Y ?_ ?_ <;> (intro hgd; try (simp only [Bool.not_true, Bool.not_false] at hgd))) | (refine gc_Y ?_ ?_ <;> intro _) | fail)
  refine cl_Y (hs) ?_
  intro _ _
  repeat' (first | (refine go_Y ?_; intros) | (refine gs_Y ?_ ?_ <;> (intro hgd; try (simp only [Bool.not_true, Bool.not_false] at hgd))) | (refine gc_Y ?_ ?_ <;> intro _) | fail)
  (refine rt_Y (y := ()) (hrs := Tryd.results13) (hv := ?_) (hφ := ?_))
  · rfl
  · trivial
theorem topics_ok (vs : Value) (ts : List Tb) (A : HProp) (h : SV A vs ts) (hc : checkS (ts.map Tb.c) = true) :
    FSpec Tryd.prog 13 [.agg #[vs]] [A] Nat (fun _ => True) (fun b => .slice (some ⟨b, 0, none⟩) (ts.length + 1) (ts.length + 1)) (fun b => [row 9 1 (.slice (some ⟨b, 0, none⟩) (ts.length + 1) (ts.length + 1)) ((topicsS (ts.map Tb.c)).map fun s => [.string s]), A]) := by
  have e0 : (!decide ((0 : Int) = (0 : Int))) = false := by decide
  obtain ⟨_, _, _, hl1, hl2⟩ := checkS_ok hc
  rw [List.length_map] at hl1 hl2
  have l1 : (ts.map tbV).length = ts.length := by simp
  have lt : (topicsS (ts.map Tb.c)).length = ts.length + 1 := by simp [topicsS]
  have g0 : gT (topicsS (ts.map Tb.c)) 0 = ⟨#[109, 97, 114, 107, 115]⟩ := rfl
  have gk : ∀ (k : Nat) (hk : k < ts.length), gT (topicsS (ts.map Tb.c)) (k + 1) = ⟨#[116, 45]⟩ ++ ts[k].name := by
    intro k hk
    unfold gT topicsS
    rw [List.getElem?_cons_succ, List.getElem?_map, List.getElem?_map, List.getElem?_eq_getElem hk]; rfl
  have hn := fun t ht => (h.tab t ht).nm
  have hA := h.vw
  generalize topicsS (ts.map Tb.c) = tp at lt g0 gk
  refine fspec_lrn (fun R hh s => (VwIn.slice (VwIn.here hA)) hh s) ?_
  rintro ⟨pv, cv, rfl⟩
  have hs := sCheck_spec _ ts A h
  rw [hc, if_pos rfl] at hs
  refine spec_intro [] _ Tryd.func13 rfl Tryd.ntmps13 (by rfl) (fun w0 R => ?_)
  repeat' (first | (refine go_Y ?_; intros) | (refine gs_Y ?_ ?_ <;> (intro hgd; try (simp only [Bool.not_true, Bool.not_false] at hgd))) | (refine gc_Y ?_ ?_ <;> intro _) | fail)
  rename_i b1
  refine cl_Y (hs) ?_
  intro _ _
  rw [← l1] at lt ⊢
  have hb0 : 0 < (ts.map tbV).length + 1 := by omega
  repeat' (first | (refine go_Y ?_; intros) | (refine gs_Y ?_ ?_ <;> (intro hgd; try (simp only [Bool.not_true, Bool.not_false] at hgd))) | (refine gc_Y ?_ ?_ <;> intro _) | fail)
  rename_i b2
  have hset : (List.replicate ((ts.map tbV).length + 1) [Value.string ⟨#[]⟩]).set 0 [.string ⟨#[109, 97, 114, 107, 115]⟩] = tpR tp 1 := by rw [← lt, ← tpR_0, ← g0]; exact tpR_set tp 0 (by omega)
  rw [hset]
  refine ok_map (L' := [row 9 1 (.slice (some ⟨b2, 0, none⟩) ((ts.map tbV).length + 1) ((ts.map tbV).length + 1)) (tpR tp 1), A, pts b1 (.cells [.slice pv (ts.map tbV).length cv].toArray 24)] ++ R) entD ?_
  refine ok_loop' (γ := Nat) (fun k ρ L => k ≤ ts.length ∧ Knows ρ [(1, .pointer (some ⟨b1, 0, none⟩)), (3, .slice (some ⟨b2, 0, none⟩) ((ts.map tbV).length + 1) ((ts.map tbV).length + 1)), (17, .int .i64 ((ts.map tbV).length : Int)), (18, .int .i64 (k : Int))] ∧
      L = [row 9 1 (.slice (some ⟨b2, 0, none⟩) ((ts.map tbV).length + 1) ((ts.map tbV).length + 1)) (tpR tp (k + 1)), A, pts b1 (.cells [.slice pv (ts.map tbV).length cv].toArray 24)] ++ R) (fun k => ts.length - k) 0 ⟨by omega, ⟨rfl, rfl, rfl, rfl, trivial⟩, rfl⟩ ?_
  rintro k ρ L ⟨hk0, hk, rfl⟩
  refine ok_regs hk ?_
  cases t1 : decide ((k : Int) < ((ts.map tbV).length : Int)) with
  | false =>
    have hje : k = ts.length := by rw [decide_eq_false_iff_not] at t1; omega
    subst hje
    rw [show ts.length + 1 = tp.length by omega, tpR_n]
    repeat' (first | (refine go_Y ?_; intros) | (refine gs_Y ?_ ?_ <;> (intro hgd; try (simp only [Bool.not_true, Bool.not_false] at hgd))) | (refine gc_Y ?_ ?_ <;> intro _) | fail)
    (refine rt_Y (y := b2) (hrs := Tryd.results13) (hv := ?_) (hφ := ?_))
    · rfl
    · trivial
  | true =>
    have hj0 : k < ts.length := by rw [decide_eq_true_eq] at t1; omega
    have hx : (ts.map tbV)[k]? = some (tbV ts[k]) := by rw [List.getElem?_map, List.getElem?_eq_getElem hj0]; rfl
    have hjn : k < (ts.map tbV).length := by omega
    have hkn : k + 1 < (ts.map tbV).length + 1 := by omega
    have he1 : ((k : Int) + 1) = ((k + 1 : Nat) : Int) := rfl
    have hst := tpR_set tp (k + 1) (by omega)
    rw [gk k hj0] at hst
    have hnm := hn _ (List.getElem_mem hj0)
    have hz : (⟨#[116, 45]⟩ : BA).size = 2 := rfl
    refine ok_learn (VwIn.base (VwIn.there (VwIn.here hA)) (by intro e; rw [e] at hjn; simp at hjn)) ?_
    rintro ⟨bu, ou, rfl⟩
    generalize ts[k] = x at hx hst hnm
    obtain ⟨nm, cols, ⟨xc, hxc⟩, ky, rf, pr⟩ := x
    dsimp only [tbV] at hx hst hnm
    repeat' (first | (refine go_Y ?_; intros) | (refine gs_Y ?_ ?_ <;> (intro hgd; try (simp only [Bool.not_true, Bool.not_false] at hgd))) | (refine gc_Y ?_ ?_ <;> intro _) | fail)
    rw [hst]
    refine cont_map (L' := [row 9 1 (.slice (some ⟨b2, 0, none⟩) ((ts.map tbV).length + 1) ((ts.map tbV).length + 1)) (tpR tp (k + 1 + 1)), A, pts b1 (.cells [.slice (some ⟨bu, ou, none⟩) (ts.map tbV).length cv].toArray 24)] ++ R) entD ?_
    refine cont_back (k + 1) ⟨hj0, ⟨rfl, rfl, rfl, rfl, trivial⟩, rfl⟩ (by omega)
end Go.Proofs.YtphaegcoldpclaaDoor
