/- Texts merged: TpH TpI TpJ TpK. -/
import Derived.Test.YtadgdikijdmceaaGreatG10
import Derived.Test.YtadgdikijdmceaaGreatG11
import Derived.Test.YtadgdikijdmceaaGreatG8
set_option linter.unusedSimpArgs false
set_option linter.unusedVariables false
set_option maxRecDepth 100000
namespace Go.Proofs.YtadgdikijdmceaaGreat
open Go Go.Fx Go.Proofs Go.Pl

def unE (s : BA) : Int := if (unhexS s).isSome then 0 else 2
def fileS (name f : BA) : Option Sg :=
  if (cutP f (name ++ dotT)).2 = true ∧ unE (cutP f (name ++ dotT)).1 = 0 ∧ (cutP f (name ++ dotT)).1.size = 12 then some ⟨f, (unhexS (cutP f (name ++ dotT)).1).getD 0, []⟩ else none
def filesT (name : BA) (l : List BA) : List Sg := l.filterMap (fileS name)
def sg0 (x : Sg) : Sm := ⟨x, ⟨.slice none 0 0, rfl⟩, ⟨.slice none 0 0, rfl⟩⟩
theorem filesT_take (name : BA) (l : List BA) (j : Nat) (h : j < l.length) : filesT name (l.take (j + 1)) = filesT name (l.take j) ++ (fileS name l[j]).toList := by
  unfold filesT
  rw [List.take_succ_eq_append_getElem h, List.filterMap_append]
  cases h : fileS name l[j] with
  | none => simp [h]
  | some x => simp [h]
theorem filesT_len (name : BA) (l : List BA) : (filesT name l).length ≤ l.length := List.length_filterMap_le _ _
set_option maxHeartbeats 4000000 in
theorem files_spec (tb b : Nat) (name : BA) (seg : Int) (vs : Value) (fault : Int) (d : Dk) (hz : name.size ≤ 1000000) (hnm : ∀ x ∈ d.files.map (·.1), mayN x = true) (hc : d.files.length ≤ 1000000) :
    FSpec Tryz.prog 67 [.pointer (some ⟨tb, 0, none⟩)] [tpP tb b name seg vs fault, diskP b d] V1s (fun _ => True) (fun y => y.1)
      (fun y => [row 76 5 y.1 ((filesT name (sortN (d.files.map (·.1)))).map fun x => sgV (sg0 x)), tpP tb b name seg vs fault, diskP b d]) := by
  have hN := Names_spec b d hnm (by omega)
  have z1 : ByteArray.size ⟨#[46]⟩ = 1 := rfl
  have z2 : (name ++ (⟨#[46]⟩ : ByteArray)).size = name.size + 1 := by rw [ByteArray.size_append, z1]
  have hms : ∀ x ∈ sortN (d.files.map (·.1)), x.size ≤ 64 := fun x hx => mayN_size (hnm x (sortN_mem hx))
  have hsl := sortN_len (d.files.map (·.1))
  rw [List.length_map] at hsl
  generalize sortN (d.files.map (·.1)) = ns at hN hms hsl ⊢
  have ll : (ns.map fun s => ([.string s] : List Value)).length = ns.length := by simp
  refine spec_intro [] _ Tryz.func67 rfl Tryz.ntmps67 (by rfl) (fun w0 R => ?_)
  refine ok_map (fun _ h => nilRow (e := 76) (n := 5) h) ?_
  repeat' (first | (refine go_Y ?_; intros) | (refine gs_Y ?_ ?_ <;> (intro hgd; try (simp only [Bool.not_true, Bool.not_false] at hgd))) | (refine gc_Y ?_ ?_ <;> intro _) | fail)
  refine cl_Y (hN) ?_
  rintro ⟨vn, hvn⟩ _
  repeat' (first | (refine go_Y ?_; intros) | (refine gs_Y ?_ ?_ <;> (intro hgd; try (simp only [Bool.not_true, Bool.not_false] at hgd))) | (refine gc_Y ?_ ?_ <;> intro _) | fail)
  refine ok_learn (VwIn.slice (VwIn.here (Vw.row (e := 9) (n := 1) (v := vn) (xs := ns.map fun s => [Value.string s])))) ?_
  rintro ⟨pn, cn, rfl⟩
  refine ok_map (L' := [row 76 5 (.slice none 0 0) ((filesT name (ns.take 0)).map fun x => sgV (sg0 x)), row 9 1 (.slice pn (ns.map fun s => [Value.string s]).length cn) (ns.map fun s => [Value.string s]), tpP tb b name seg vs fault, diskP b d] ++ R) entD ?_
  refine ok_loop' (γ := Nat × V1s) (fun g ρ L => g.1 ≤ ns.length ∧ Knows ρ [(0, .pointer (some ⟨tb, 0, none⟩)), (2, g.2.1), (13, .slice pn (ns.map fun s => [Value.string s]).length cn), (14, .int .i64 (ns.map fun s => [Value.string s]).length), (15, .int .i64 g.1)] ∧
      L = [row 76 5 g.2.1 ((filesT name (ns.take g.1)).map fun x => sgV (sg0 x)), row 9 1 (.slice pn (ns.map fun s => [Value.string s]).length cn) (ns.map fun s => [Value.string s]), tpP tb b name seg vs fault, diskP b d] ++ R) (fun g => ns.length - g.1) (0, ⟨.slice none 0 0, rfl⟩) ⟨Nat.zero_le _, ⟨rfl, rfl, rfl, rfl, rfl, trivial⟩, rfl⟩ ?_
  rintro ⟨j, ⟨u, hu⟩⟩ ρ L ⟨hj, hk, rfl⟩
  dsimp only at hj hk ⊢
  refine ok_regs hk ?_
  cases t1 : decide ((j : Int) < ((ns.map fun s => [Value.string s]).length : Int)) with
  | false =>
    have hje : j = ns.length := by have := of_decide_eq_false t1; omega
    subst hje
    rw [List.take_length]
    repeat' (first | (refine go_Y ?_; intros) | (refine gs_Y ?_ ?_ <;> (intro hgd; try (simp only [Bool.not_true, Bool.not_false] at hgd))) | (refine gc_Y ?_ ?_ <;> intro _) | fail)
    (refine rt_Y (y := ⟨u, hu⟩) (hrs := Tryz.results67) (hv := ?_) (hφ := ?_))
    · rfl
    · trivial
  | true =>
    have hj0 : j < ns.length := by have := of_decide_eq_true t1; omega
    have hn1 : j < (ns.map fun s => [Value.string s]).length := by omega
    have hx : (ns.map fun s => [Value.string s])[j]? = some [Value.string ns[j]] := by rw [List.getElem?_map, List.getElem?_eq_getElem hj0]; rfl
    have hft := filesT_take name ns j hj0
    have hmj := hms _ (List.getElem_mem hj0)
    have hfl := filesT_len name (ns.take j)
    have htl : (ns.take j).length = j := by simp; omega
    have hfl2 : ((filesT name (ns.take j)).map fun x => sgV (sg0 x)).length = (filesT name (ns.take j)).length := by simp
    refine ok_learn (VwIn.base (n := 1) (p := pn) (len := (ns.map fun s => [Value.string s]).length) (cap := cn) (xs := ns.map fun s => [Value.string s]) (VwIn.there (VwIn.here Vw.row)) (by intro e; rw [e] at hn1; simp at hn1)) ?_
    rintro ⟨bu, ou, rfl⟩
    generalize ns[j] = f at hx hft hmj
    have hcp : FSpec Tryz.prog 90 [.string f, .string (name ++ ⟨#[46]⟩)] [] Unit (fun _ => True) (fun _ => .tuple #[.string (cutP f (name ++ dotT)).1, .bool (cutP f (name ++ dotT)).2]) (fun _ => []) := cutP_spec f (name ++ dotT) (by omega) (by show (name ++ (⟨#[46]⟩ : ByteArray)).size ≤ _; omega)
    have hcz : (cutP f (name ++ dotT)).1.size ≤ f.size := by
      unfold cutP
      split
      · show (f.extract _ _).size ≤ _; rw [ByteArray.size_extract]; omega
      · exact Nat.le_refl _
    unfold fileS at hft
    generalize cutP f (name ++ dotT) = cp at hcp hcz hft
    obtain ⟨rest, is⟩ := cp
    dsimp only at hcp hcz hft
    have hU : FSpec Tryz.prog 91 [.string rest] [] Unit (fun _ => True) (fun _ => .tuple #[.int .u64 (((unhexS rest).getD 0 : Nat) : Int), .int .i64 (unE rest)]) (fun _ => []) := unhex_spec rest (by omega)
    generalize unE rest = e at hU hft
    generalize (unhexS rest).getD 0 = n at hU hft
    cases is with
    | false =>
      rw [if_neg (fun k => by cases k.1), Option.toList_none, List.append_nil] at hft
      repeat' (first | (refine go_Y ?_; intros) | (refine gs_Y ?_ ?_ <;> (intro hgd; try (simp only [Bool.not_true, Bool.not_false] at hgd))) | (refine gc_Y ?_ ?_ <;> intro _) | fail)
      refine cl_Y (hcp) ?_
      intro _ _
      repeat' (first | (refine go_Y ?_; intros) | (refine gs_Y ?_ ?_ <;> (intro hgd; try (simp only [Bool.not_true, Bool.not_false] at hgd))) | (refine gc_Y ?_ ?_ <;> intro _) | fail)
      refine cl_Y (hU) ?_
      intro _ _
      repeat' (first | (refine go_Y ?_; intros) | (refine gs_Y ?_ ?_ <;> (intro hgd; try (simp only [Bool.not_true, Bool.not_false] at hgd))) | (refine gc_Y ?_ ?_ <;> intro _) | fail)
      refine cont_map (L' := [row 76 5 u ((filesT name (ns.take (j + 1))).map fun x => sgV (sg0 x)), row 9 1 (.slice (some ⟨bu, ou, none⟩) (ns.map fun s => [Value.string s]).length cn) (ns.map fun s => [Value.string s]), tpP tb b name seg vs fault, diskP b d] ++ R) (by rw [hft]; exact entD) ?_
      exact cont_back (j + 1, ⟨u, hu⟩) ⟨hj0, ⟨rfl, rfl, rfl, rfl, rfl, trivial⟩, rfl⟩ (by show ns.length - (j + 1) < ns.length - j; omega)
    | true =>
      cases t2 : decide (e = 0) with
      | false =>
        rw [if_neg (fun k => (of_decide_eq_false t2) k.2.1), Option.toList_none, List.append_nil] at hft
        repeat' (first | (refine go_Y ?_; intros) | (refine gs_Y ?_ ?_ <;> (intro hgd; try (simp only [Bool.not_true, Bool.not_false] at hgd))) | (refine gc_Y ?_ ?_ <;> intro _) | fail)
        refine cl_Y (hcp) ?_
        intro _ _
        repeat' (first | (refine go_Y ?_; intros) | (refine gs_Y ?_ ?_ <;> (intro hgd; try (simp only [Bool.not_true, Bool.not_false] at hgd))) | (refine gc_Y ?_ ?_ <;> intro _) | fail)
        refine cl_Y (hU) ?_
        intro _ _
        repeat' (first | (refine go_Y ?_; intros) | (refine gs_Y ?_ ?_ <;> (intro hgd; try (simp only [Bool.not_true, Bool.not_false] at hgd))) | (refine gc_Y ?_ ?_ <;> intro _) | fail)
        refine cont_map (L' := [row 76 5 u ((filesT name (ns.take (j + 1))).map fun x => sgV (sg0 x)), row 9 1 (.slice (some ⟨bu, ou, none⟩) (ns.map fun s => [Value.string s]).length cn) (ns.map fun s => [Value.string s]), tpP tb b name seg vs fault, diskP b d] ++ R) (by rw [hft]; exact entD) ?_
        exact cont_back (j + 1, ⟨u, hu⟩) ⟨hj0, ⟨rfl, rfl, rfl, rfl, rfl, trivial⟩, rfl⟩ (by show ns.length - (j + 1) < ns.length - j; omega)
      | true =>
        cases t3 : decide ((rest.size : Int) = 12) with
        | false =>
          rw [if_neg (fun k => (of_decide_eq_false t3) (by have := k.2.2; omega)), Option.toList_none, List.append_nil] at hft
          repeat' (first | (refine go_Y ?_; intros) | (refine gs_Y ?_ ?_ <;> (intro hgd; try (simp only [Bool.not_true, Bool.not_false] at hgd))) | (refine gc_Y ?_ ?_ <;> intro _) | fail)
          refine cl_Y (hcp) ?_
          intro _ _
          repeat' (first | (refine go_Y ?_; intros) | (refine gs_Y ?_ ?_ <;> (intro hgd; try (simp only [Bool.not_true, Bool.not_false] at hgd))) | (refine gc_Y ?_ ?_ <;> intro _) | fail)
          refine cl_Y (hU) ?_
          intro _ _
          repeat' (first | (refine go_Y ?_; intros) | (refine gs_Y ?_ ?_ <;> (intro hgd; try (simp only [Bool.not_true, Bool.not_false] at hgd))) | (refine gc_Y ?_ ?_ <;> intro _) | fail)
          refine cont_map (L' := [row 76 5 u ((filesT name (ns.take (j + 1))).map fun x => sgV (sg0 x)), row 9 1 (.slice (some ⟨bu, ou, none⟩) (ns.map fun s => [Value.string s]).length cn) (ns.map fun s => [Value.string s]), tpP tb b name seg vs fault, diskP b d] ++ R) (by rw [hft]; exact entD) ?_
          exact cont_back (j + 1, ⟨u, hu⟩) ⟨hj0, ⟨rfl, rfl, rfl, rfl, rfl, trivial⟩, rfl⟩ (by show ns.length - (j + 1) < ns.length - j; omega)
        | true =>
          rw [if_pos ⟨rfl, of_decide_eq_true t2, by have := of_decide_eq_true t3; omega⟩, Option.toList_some] at hft
          have hft : (filesT name (ns.take (j + 1))).map (fun x => sgV (sg0 x)) = (filesT name (ns.take j)).map (fun x => sgV (sg0 x)) ++ [[.string f, .int .u64 (n : Int), .slice none 0 0, .int .i64 0, .slice none 0 0]] := by rw [hft, List.map_append]; rfl
          repeat' (first | (refine go_Y ?_; intros) | (refine gs_Y ?_ ?_ <;> (intro hgd; try (simp only [Bool.not_true, Bool.not_false] at hgd))) | (refine gc_Y ?_ ?_ <;> intro _) | fail)
          refine cl_Y (hcp) ?_
          intro _ _
          repeat' (first | (refine go_Y ?_; intros) | (refine gs_Y ?_ ?_ <;> (intro hgd; try (simp only [Bool.not_true, Bool.not_false] at hgd))) | (refine gc_Y ?_ ?_ <;> intro _) | fail)
          refine cl_Y (hU) ?_
          intro _ _
          repeat' (first | (refine go_Y ?_; intros) | (refine gs_Y ?_ ?_ <;> (intro hgd; try (simp only [Bool.not_true, Bool.not_false] at hgd))) | (refine gc_Y ?_ ?_ <;> intro _) | fail)
          rename_i w hw
          refine cont_map (L' := [row 76 5 w ((filesT name (ns.take (j + 1))).map fun x => sgV (sg0 x)), row 9 1 (.slice (some ⟨bu, ou, none⟩) (ns.map fun s => [Value.string s]).length cn) (ns.map fun s => [Value.string s]), tpP tb b name seg vs fault, diskP b d] ++ R) (by rw [hft]; exact entD) ?_
          exact cont_back (j + 1, ⟨w, hw⟩) ⟨hj0, ⟨rfl, rfl, rfl, rfl, rfl, trivial⟩, rfl⟩ (by show ns.length - (j + 1) < ns.length - j; omega)
end Go.Proofs.YtadgdikijdmceaaGreat
set_option linter.unusedSimpArgs false
set_option linter.unusedVariables false
set_option maxRecDepth 100000
namespace Go.Proofs.YtadgdikijdmceaaGreat
open Go Go.Fx Go.Proofs Go.Pl

def bad1 (seg : Nat) (x : Sg) : Bool := !decide ((x.first : Int).tmod (seg : Int) = 0) || decide ((seg : Int) < (x.recs.length : Int))
def bad2 (k : Nat) (acc : List Sg) (x : Sg) : Bool := decide ((0 : Int) < (k : Int)) && !decide ((x.first : Int) = (nextS acc : Int))
def bad3 (seg n k : Nat) (x : Sg) : Bool := decide ((k : Int) < (n : Int) - 1) && !decide ((x.recs.length : Int) = (seg : Int))
def addL (acc : List Sg) (x : Sg) : List Sg := if 0 < x.recs.length then acc ++ [x] else acc
def loadL (seg n : Nat) : List Sg → Nat → List Sg → Dk → Dk × Int × List Sg
  | [], _, acc, d => (d, 0, acc)
  | f :: l, k, acc, d =>
    if (readT d f (decide ((k : Int) = (n : Int) - 1))).2.2 ≠ 0 then (d, (readT d f (decide ((k : Int) = (n : Int) - 1))).2.2, acc) else
    if bad1 seg (readT d f (decide ((k : Int) = (n : Int) - 1))).1 = true then (d, 7, acc) else
    if bad2 k acc (readT d f (decide ((k : Int) = (n : Int) - 1))).1 = true then (d, 7, acc) else
    if bad3 seg n k (readT d f (decide ((k : Int) = (n : Int) - 1))).1 = true then (d, 7, acc) else
    if (readT d f (decide ((k : Int) = (n : Int) - 1))).2.1 = true then
      if (cutT d (readT d f (decide ((k : Int) = (n : Int) - 1))).1).2 ≠ 0 then ((cutT d (readT d f (decide ((k : Int) = (n : Int) - 1))).1).1, (cutT d (readT d f (decide ((k : Int) = (n : Int) - 1))).1).2, acc) else
      loadL seg n l (k + 1) (addL acc (readT d f (decide ((k : Int) = (n : Int) - 1))).1) (cutT d (readT d f (decide ((k : Int) = (n : Int) - 1))).1).1
    else loadL seg n l (k + 1) (addL acc (readT d f (decide ((k : Int) = (n : Int) - 1))).1) d
def loadE : Dk × Int × List Sg → Dk × Int × List Sg
  | (d, e, l) => if e ≠ 0 then (d, e, l) else if 0 < d.loose.length then (d.sync.1, d.sync.2, l) else (d, 0, l)
def loadT (d : Dk) (name : BA) (seg : Nat) : Dk × Int × List Sg :=
  loadE (loadL seg (filesT name (sortN (d.files.map (·.1)))).length (filesT name (sortN (d.files.map (·.1)))) 0 [] d)
theorem unL_lt : ∀ (l : List UInt8) (v r : Nat), unL l v = some r → r < (v + 1) * 16 ^ l.length
  | [], v, r, h => by simp only [unL, Option.some.injEq] at h; simp; omega
  | c :: l, v, r, h => by
    unfold unL at h
    cases hc : unD c with
    | none => rw [hc] at h; cases h
    | some d =>
      rw [hc] at h
      have h1 := unL_lt l _ r h
      have h2 := unD_lt hc
      have h3 : (v * 16 + d + 1) * 16 ^ l.length ≤ ((v + 1) * 16) * 16 ^ l.length := Nat.mul_le_mul_right _ (by omega)
      have h4 : ((v + 1) * 16) * 16 ^ l.length = (v + 1) * 16 ^ (c :: l).length := by rw [List.length_cons, Nat.pow_succ, Nat.mul_assoc, Nat.mul_comm 16]
      omega
theorem filesT_mem {name : BA} {l : List BA} {x : Sg} (h : x ∈ filesT name l) : x.recs = [] ∧ x.file ∈ l ∧ x.first < 281474976710656 := by
  unfold filesT at h
  obtain ⟨f, hf, hx⟩ := List.mem_filterMap.1 h
  unfold fileS at hx
  split at hx
  · rename_i h1
    obtain ⟨_, h2, h3⟩ := h1
    rw [← Option.some.inj hx]
    refine ⟨rfl, hf, ?_⟩
    cases hu : unhexS (cutP f (name ++ dotT)).1 with
    | none => show 0 < _; decide
    | some r =>
      show r < _
      unfold unhexS at hu
      rw [if_pos ⟨by omega, by omega⟩] at hu
      have h4 := unL_lt _ _ _ hu
      have h5 : (cutP f (name ++ dotT)).1.data.toList.length = 12 := by rw [Array.length_toList]; exact h3
      rw [h5] at h4
      simpa using h4
  · cases hx
theorem readT_facts (d : Dk) (file : BA) (first : Nat) (last : Bool) : (readT d ⟨file, first, []⟩ last).1.file = file ∧ (readT d ⟨file, first, []⟩ last).1.first = first ∧ lenT (readT d ⟨file, first, []⟩ last).1.recs ≤ 16777216 := by
  have hz := read_size d file 16777216 (by decide)
  have hsl := scanF_len (d.read file 0 16777216).1.size (d.read file 0 16777216).1
  rw [show scanF (d.read file 0 16777216).1.size (d.read file 0 16777216).1 = scanOf (d.read file 0 16777216).1 from rfl] at hsl
  have h0 : lenT [] ≤ 16777216 := by decide
  unfold readT
  dsimp only
  split
  · exact ⟨rfl, rfl, h0⟩
  · split
    · exact ⟨rfl, rfl, by dsimp only; rw [List.nil_append]; omega⟩
    · split
      · exact ⟨rfl, rfl, h0⟩
      · exact ⟨rfl, rfl, by dsimp only; rw [List.nil_append]; omega⟩
theorem truncate_loose (d : Dk) (x : BA) (n : Int) : (d.truncate x n).1.loose.length ≤ d.loose.length + 1 := by
  unfold Dk.truncate
  split
  · exact Nat.le_succ _
  · split
    · exact Nat.le_succ _
    · split
      · exact Nat.le_succ _
      · split
        · exact Nat.le_succ _
        · exact doC_loose _ _
theorem cutT_loose (d : Dk) (x : Sg) : (cutT d x).1.loose.length ≤ d.loose.length + 1 := by
  unfold cutT
  split
  · exact remove_loose _ _
  · exact truncate_loose _ _ _
theorem cutT_ok {d : Dk} (h : d.Ok) (x : Sg) : (cutT d x).1.Ok := by
  unfold cutT
  split
  · exact h.remove
  · exact h.truncate
def AcB (x : Sg) : Prop := x.first < 281474976710656 ∧ x.recs.length ≤ 2000000
theorem nextS_acb {l : List Sg} (h : ∀ x ∈ l, AcB x) : nextS l ≤ 1000000000000000 := by
  unfold nextS
  cases e : l.getLast? with
  | none => exact Nat.zero_le _
  | some x =>
    obtain ⟨h1, h2⟩ := h x (List.mem_of_getLast? e)
    show x.first + x.recs.length ≤ _
    omega
theorem fspec_flat {P : Program} {f : FuncId} {args : List Value} {M : List HProp} {Y : Type} {φ : Y → Prop} {ret : Y → Value} (s : FSpec P f args [fun h => SatL M h] Y φ ret (fun _ => [fun h => SatL M h])) : FSpec P f args M Y φ ret (fun _ => M) := by
  intro w0 w R hs
  refine (s w0 w R (hs.map (fun _ k => SatL.unflat k))).mono ?_
  rintro e w' ⟨y, hy, rfl, hs'⟩
  exact ⟨y, hy, rfl, hs'.map (fun _ k => SatL.flat k)⟩
theorem tnextR_spec (v : Value) (l : List Sm) (A : HProp) (h : ∀ x ∈ l, SgR A x) (hl : l.length ≤ 1000000000) (hb : nextS (l.map Sm.s) ≤ 1000000000000000) :
    FSpec Tryz.prog 43 [v] [row 76 5 v (l.map sgV), A] Unit (fun _ => True) (fun _ => .int .u64 (nextS (l.map Sm.s) : Int)) (fun _ => [row 76 5 v (l.map sgV), A]) := by
  refine fspec_lrnT (fun R hh s => rowShapeS (e := 76) (n := 5) (v := v) (xs := l.map sgV) (by decide) takeD hh s) ?_
  rintro ⟨p, c, rfl, hc, _⟩
  refine fspec_flat (tnext_spec _ l (fun h => SatL [row 76 5 (.slice p (l.map sgV).length c) (l.map sgV), A] h) ⟨fun f hf => (VwIn.here Vw.row).satL hf, fun x hx => (h x hx).ext ?_, ⟨p, c, rfl, hc⟩⟩ hl hb)
  intro f hf
  obtain ⟨h1, h2, _, _, l2, _, h3, _, _, l3, _, hA, _⟩ := hf
  exact ⟨h3, l3.trans l2, hA⟩
end Go.Proofs.YtadgdikijdmceaaGreat
set_option linter.unusedSimpArgs false
set_option linter.unusedVariables false
set_option maxRecDepth 100000
namespace Go.Proofs.YtadgdikijdmceaaGreat
open Go Go.Fx Go.Proofs Go.Pl

theorem loadL_cons (seg n : Nat) (f : Sg) (l : List Sg) (k : Nat) (acc : List Sg) (d : Dk) (rt : Sg × Bool × Int) (h : readT d f (decide ((k : Int) = (n : Int) - 1)) = rt) : loadL seg n (f :: l) k acc d =
    if rt.2.2 ≠ 0 then (d, rt.2.2, acc) else if bad1 seg rt.1 = true then (d, 7, acc) else if bad2 k acc rt.1 = true then (d, 7, acc) else if bad3 seg n k rt.1 = true then (d, 7, acc) else
    if rt.2.1 = true then if (cutT d rt.1).2 ≠ 0 then ((cutT d rt.1).1, (cutT d rt.1).2, acc) else loadL seg n l (k + 1) (addL acc rt.1) (cutT d rt.1).1 else loadL seg n l (k + 1) (addL acc rt.1) d := by
  subst h
  rfl
theorem Vw.nil0 {H : HProp} {n : Nat} : Vw H n (.slice none 0 0) [] := fun h _ => ⟨fun _ hx => by simp at hx, none, 0, rfl, .inl rfl, fun _ => rfl, fun _ _ e => by cases e⟩
set_option maxHeartbeats 16000000 in
theorem load_spec (tb b : Nat) (name : BA) (seg : Nat) (vs : Value) (fault : Int) (d : Dk) (A : HProp) (hz : name.size ≤ 1000000) (hs0 : 1 ≤ seg) (hs1 : seg ≤ 65536) (hnm : ∀ x ∈ d.files.map (·.1), mayN x = true) (hc : d.files.length ≤ 1000000) (hd : d.Ok) (hlo : d.loose.length ≤ 1000000) :
    FSpec Tryz.prog 40 [.pointer (some ⟨tb, 0, none⟩)] [tpP tb b name (seg : Int) vs fault, diskP b d, A] (Value × List Sm × HProp)
      (fun y => Ext A y.2.2 ∧ ((loadT d name seg).2.1 = 0 → SgsR y.2.2 y.1 y.2.1 ∧ y.2.1.map Sm.s = (loadT d name seg).2.2))
      (fun y => .int .i64 (loadT d name seg).2.1) (fun y => [tpP tb b name (seg : Int) y.1 fault, diskP b (loadT d name seg).1, y.2.2]) := by
  have hf := files_spec tb b name (seg : Int) vs fault d hz hnm hc
  have hfl := filesT_len name (sortN (d.files.map (·.1)))
  have hfm : ∀ x ∈ filesT name (sortN (d.files.map (·.1))), x.recs = [] ∧ x.file.size ≤ 64 ∧ x.first < 281474976710656 := fun x hx => by
    obtain ⟨h1, h2, h3⟩ := filesT_mem hx
    exact ⟨h1, mayN_size (hnm _ (sortN_mem h2)), h3⟩
  rw [sortN_len, List.length_map] at hfl
  replace hfl := Nat.le_trans hfl hc
  unfold loadT
  generalize filesT name (sortN (d.files.map (·.1))) = fs at hf hfl hfm ⊢
  generalize hres : loadL seg fs.length fs 0 [] d = res
  have ll : (fs.map fun x => sgV (sg0 x)).length = fs.length := by simp
  have hfv : ∀ (k : Nat) (h : k < fs.length), (fs.map fun x => sgV (sg0 x))[k]? = some [.string fs[k].file, .int .u64 (fs[k].first : Int), .slice none 0 0, .int .i64 (lenT fs[k].recs : Int), .slice none 0 0] := fun k h => by rw [List.getElem?_map, List.getElem?_eq_getElem h]; rfl
  generalize hfe : (fs.map fun x => sgV (sg0 x)) = fv at hf ll hfv
  refine spec_intro [] _ Tryz.func40 rfl Tryz.ntmps40 (by rfl) (fun w0 R => ?_)
  refine ok_map (fun _ h => nilRow (e := 76) (n := 5) h) ?_
  repeat' (first | (refine go_Y ?_; intros) | (refine gs_Y ?_ ?_ <;> (intro hgd; try (simp only [Bool.not_true, Bool.not_false] at hgd))) | (refine gc_Y ?_ ?_ <;> intro _) | fail)
  refine cl_Y (hf) ?_
  rintro ⟨vf, hvf⟩ _
  repeat' (first | (refine go_Y ?_; intros) | (refine gs_Y ?_ ?_ <;> (intro hgd; try (simp only [Bool.not_true, Bool.not_false] at hgd))) | (refine gc_Y ?_ ?_ <;> intro _) | fail)
  refine ok_learn (VwIn.slice (VwIn.here (Vw.row (e := 76) (n := 5) (v := vf) (xs := fv)))) ?_
  rintro ⟨pf, cf, rfl⟩
  refine ok_map (L' := [row 76 5 (.slice none 0 0) (([] : List Sm).map sgV), row 76 5 (.slice pf fv.length cf) fv, tpP tb b name (seg : Int) vs fault, diskP b d, A] ++ R) entD ?_
  refine ok_loop' (γ := Nat × List Sm × V1s × Dk × HProp) (fun g ρ L => g.1 ≤ fs.length ∧ Ext A g.2.2.2.2 ∧ (∀ x ∈ g.2.1, SgR g.2.2.2.2 x ∧ AcB x.s) ∧ g.2.1.length ≤ g.1 ∧ g.2.2.2.1.Ok ∧ g.2.2.2.1.loose.length ≤ 1000000 + g.1 ∧ loadL seg fs.length (fs.drop g.1) g.1 (g.2.1.map Sm.s) g.2.2.2.1 = res ∧
      Knows ρ [(0, .pointer (some ⟨tb, 0, none⟩)), (3, g.2.2.1.1), (4, .slice pf fv.length cf), (13, .slice pf fv.length cf), (14, .int .i64 fv.length), (15, .int .i64 g.1)] ∧
      L = [row 76 5 g.2.2.1.1 (g.2.1.map sgV), row 76 5 (.slice pf fv.length cf) fv, tpP tb b name (seg : Int) vs fault, diskP b g.2.2.2.1, g.2.2.2.2] ++ R) (fun g => fs.length - g.1) (0, [], ⟨.slice none 0 0, rfl⟩, d, A) ⟨Nat.zero_le _, .refl _, (fun x hx => by simp at hx), Nat.le_refl _, hd, hlo, hres, ⟨rfl, rfl, rfl, rfl, rfl, rfl, trivial⟩, rfl⟩ ?_
  rintro ⟨k, acc, ⟨v, hvv⟩, D, P⟩ ρ L ⟨hk0, hA, hsa, hal, hD, hDl, hrs, hk, rfl⟩
  dsimp only at hk0 hA hsa hal hD hDl hrs hk ⊢
  refine ok_regs hk ?_
  cases t1 : decide ((k : Int) < (fv.length : Int)) with
  | false =>
    have hke : k = fs.length := by have := of_decide_eq_false t1; omega
    subst hke
    rw [List.drop_length] at hrs
    unfold loadL at hrs
    subst hrs
    refine ok_learn (rowShapeS (e := 76) (n := 5) (v := v) (xs := acc.map sgV) (by decide) takeD) ?_
    rintro ⟨pv, cv, rfl, hcv, _⟩
    refine ok_poolN (ty := 76) (n := 5) (v := .slice pv (acc.map sgV).length cv) (xs := acc.map sgV) (P := P) takeD ?_
    intro P' hE hvp
    have lacc : (acc.map sgV).length = acc.length := by simp
    have hL := Loose_spec b D
    have hvs' : SgsR P' (.slice pv (acc.map sgV).length cv) acc := ⟨hvp, fun x hx => (hsa x hx).1.ext hE, ⟨pv, cv, rfl, hcv⟩⟩
    cases t2 : decide ((0 : Int) < (D.loose.length : Int)) with
    | false =>
      have hle : loadE (D, 0, acc.map Sm.s) = (D, 0, acc.map Sm.s) := by
        show (if (0 : Int) ≠ 0 then (D, (0 : Int), acc.map Sm.s) else if 0 < D.loose.length then (D.sync.1, D.sync.2, acc.map Sm.s) else (D, 0, acc.map Sm.s)) = _
        rw [if_neg (fun h => h rfl), if_neg (by have := of_decide_eq_false t2; omega)]
      rw [hle]
      repeat' (first | (refine go_Y ?_; intros) | (refine gs_Y ?_ ?_ <;> (intro hgd; try (simp only [Bool.not_true, Bool.not_false] at hgd))) | (refine gc_Y ?_ ?_ <;> intro _) | fail)
      refine cl_Y (hL) ?_
      intro _ _
      repeat' (first | (refine go_Y ?_; intros) | (refine gs_Y ?_ ?_ <;> (intro hgd; try (simp only [Bool.not_true, Bool.not_false] at hgd))) | (refine gc_Y ?_ ?_ <;> intro _) | fail)
      (refine rt_Y (y := (.slice pv (acc.map sgV).length cv, acc, P')) (hrs := Tryz.results40) (hv := ?_) (hφ := ?_))
      · rfl
      · exact ⟨hA.trans hE, fun _ => ⟨hvs', rfl⟩⟩
    | true =>
      have hle : loadE (D, 0, acc.map Sm.s) = (D.sync.1, D.sync.2, acc.map Sm.s) := by
        show (if (0 : Int) ≠ 0 then (D, (0 : Int), acc.map Sm.s) else if 0 < D.loose.length then (D.sync.1, D.sync.2, acc.map Sm.s) else (D, 0, acc.map Sm.s)) = _
        rw [if_neg (fun h => h rfl), if_pos (by have := of_decide_eq_true t2; omega)]
      rw [hle]
      have hS := sync_spec b D hD
      repeat' (first | (refine go_Y ?_; intros) | (refine gs_Y ?_ ?_ <;> (intro hgd; try (simp only [Bool.not_true, Bool.not_false] at hgd))) | (refine gc_Y ?_ ?_ <;> intro _) | fail)
      refine cl_Y (hL) ?_
      intro _ _
      repeat' (first | (refine go_Y ?_; intros) | (refine gs_Y ?_ ?_ <;> (intro hgd; try (simp only [Bool.not_true, Bool.not_false] at hgd))) | (refine gc_Y ?_ ?_ <;> intro _) | fail)
      refine cl_Y (hS) ?_
      intro _ _
      repeat' (first | (refine go_Y ?_; intros) | (refine gs_Y ?_ ?_ <;> (intro hgd; try (simp only [Bool.not_true, Bool.not_false] at hgd))) | (refine gc_Y ?_ ?_ <;> intro _) | fail)
      (refine rt_Y (y := (.slice pv (acc.map sgV).length cv, acc, P')) (hrs := Tryz.results40) (hv := ?_) (hφ := ?_))
      · rfl
      · exact ⟨hA.trans hE, fun _ => ⟨hvs', rfl⟩⟩
  | true =>
    have hj0 : k < fs.length := by have := of_decide_eq_true t1; omega
    have hin : k < fv.length := by omega
    have hx := hfv k hj0
    obtain ⟨hr0, hfz, hff⟩ := hfm _ (List.getElem_mem hj0)
    refine ok_learn (VwIn.base (n := 5) (p := pf) (len := fv.length) (cap := cf) (xs := fv) (VwIn.there (VwIn.here Vw.row)) (by intro e; rw [e] at hin; simp at hin)) ?_
    rintro ⟨bu, ou, rfl⟩
    rw [List.drop_eq_getElem_cons hj0] at hrs
    have hsg : fs[k] = ⟨fs[k].file, fs[k].first, []⟩ := by rw [← hr0]
    rw [hsg] at hrs
    rw [hr0] at hx
    have hR := tread_spec tb b name (seg : Int) vs fault D (sg0 ⟨fs[k].file, fs[k].first, []⟩) (decide ((k : Int) = (fv.length : Int) - 1)) P ⟨Vw.nil0, Vw.nil0⟩ (by show lenT [] ≤ _; decide) (by show fs[k].file.size ≤ _; omega)
    have hrf := readT_facts D fs[k].file fs[k].first (decide ((k : Int) = (fv.length : Int) - 1))
    generalize fs[k].file = file at hx hR hrs hrf hfz
    generalize fs[k].first = first at hx hR hrs hrf hff
    dsimp only [sg0] at hR
    generalize hrt : readT D ⟨file, first, []⟩ (decide ((k : Int) = (fv.length : Int) - 1)) = rt at hR hrf
    rw [ll] at hrt
    rw [loadL_cons _ _ _ _ _ _ _ _ hrt] at hrs
    obtain ⟨xs, torn, e⟩ := rt
    dsimp only at hR hrf hrs
    have hws : IntKind.u64.wrap (seg : Int) = (seg : Int) := tp_wrap64 _ (by omega)
    cases t2 : decide (e = 0) with
    | false =>
      have t3 : (!decide (e = 0)) = true := by rw [t2]; rfl
      rw [if_pos (of_decide_eq_false t2)] at hrs
      subst hrs
      repeat' (first | (refine go_Y ?_; intros) | (refine gs_Y ?_ ?_ <;> (intro hgd; try (simp only [Bool.not_true, Bool.not_false] at hgd))) | (refine gc_Y ?_ ?_ <;> intro _) | fail)
      refine clW_Y ([]) (hR) ?_
      rintro ⟨⟨s', ⟨pv', hp'⟩, ⟨sv', hs'⟩⟩, P2⟩ ⟨g2, ⟨k1, k2⟩, he⟩
      dsimp only at he k1 k2
      refine ops_learn (VwIn.slice (VwIn.there (VwIn.there (VwIn.here k1)))) ?_
      rintro ⟨qp, dp, rfl⟩
      refine ops_learn (VwIn.slice (VwIn.there (VwIn.there (VwIn.here k2)))) ?_
      rintro ⟨qs, ds, rfl⟩
      dsimp only [sgV]
      subst he
      have hle : loadE (D, e, acc.map Sm.s) = (D, e, acc.map Sm.s) := by show (if e ≠ 0 then _ else _) = _; rw [if_pos (of_decide_eq_false t2)]
      rw [hle]
      repeat' (first | (refine go_Y ?_; intros) | (refine gs_Y ?_ ?_ <;> (intro hgd; try (simp only [Bool.not_true, Bool.not_false] at hgd))) | (refine gc_Y ?_ ?_ <;> intro _) | fail)
      (refine rt_Y (y := (vs, [], P2)) (hrs := Tryz.results40) (hv := ?_) (hφ := ?_))
      · rfl
      · exact ⟨hA.trans g2, fun h0 => absurd h0 (of_decide_eq_false t2)⟩
    | true =>
      have t3 : (!decide (e = 0)) = false := by rw [t2]; rfl
      rw [if_neg (fun h => h (of_decide_eq_true t2))] at hrs
      repeat' (first | (refine go_Y ?_; intros) | (refine gs_Y ?_ ?_ <;> (intro hgd; try (simp only [Bool.not_true, Bool.not_false] at hgd))) | (refine gc_Y ?_ ?_ <;> intro _) | fail)
      refine clW_Y ([]) (hR) ?_
      rintro ⟨⟨s', ⟨pv', hp'⟩, ⟨sv', hs'⟩⟩, P2⟩ ⟨g2, ⟨k1, k2⟩, he⟩
      dsimp only at he k1 k2
      refine ops_learn (VwIn.slice (VwIn.there (VwIn.there (VwIn.here k1)))) ?_
      rintro ⟨qp, dp, rfl⟩
      refine ops_learn (VwIn.slice (VwIn.there (VwIn.there (VwIn.here k2)))) ?_
      rintro ⟨qs, ds, rfl⟩
      dsimp only [sgV]
      subst he
      obtain ⟨xf, xn, xr⟩ := s'
      dsimp only at hrf hrs k1 k2 hp' hs' g2 ⊢
      obtain ⟨rfl, rfl, hlr⟩ := hrf
      have lp := plV_len xr 0
      have ls := smV_len xr
      have hnl := len_lenT' xr
      have hsn : (seg : Int) ≠ 0 := by omega
      have hb1 : bad1 seg ⟨xf, xn, xr⟩ = (!decide ((xn : Int).tmod (seg : Int) = 0) || decide ((seg : Int) < ((plV xr 0).length : Int))) := by unfold bad1; rw [lp]
      have hb2 : bad2 k (acc.map Sm.s) ⟨xf, xn, xr⟩ = (decide ((0 : Int) < (k : Int)) && !decide ((xn : Int) = (nextS (acc.map Sm.s) : Int))) := rfl
      have hb3 : bad3 seg fs.length k ⟨xf, xn, xr⟩ = (decide ((k : Int) < (fv.length : Int) - 1) && !decide (((plV xr 0).length : Int) = (seg : Int))) := by unfold bad3; rw [lp, ll]
      have lacc : (acc.map sgV).length = acc.length := by simp
      have hnx : nextS (acc.map Sm.s) ≤ 1000000000000000 := nextS_acb (fun x hx => by
        obtain ⟨y, hy, rfl⟩ := List.mem_map.1 hx
        exact (hsa y hy).2)
      have hN := tnextR_spec v acc P2 (fun x hx => (hsa x hx).1.ext g2) (by omega) hnx
      repeat' (first | (refine ro_Y ?_; intros) | fail)
      rename_i b6 b7
      refine cont_then (ok_seq (ok_seq (ok_region ?_)))
      repeat' (first | (refine ro_Y ?_; intros) | fail)
      refine cont_then (ok_cond_false ?_ (ok_skip (cont_then ?_)))
      · ((conv => lhs; whnf); first | done | with_reducible rfl | (refine congrArg Value.bool ?_; with_reducible assumption))
      refine ok_map (L' := [row 76 5 v (acc.map sgV), row 76 5 (.slice (some ⟨bu, ou, none⟩) fv.length cf) fv, tpP tb b name (seg : Int) vs fault, diskP b D, P2, pts b7 (.cells [.string xf, .int .u64 (xn : Int), .slice qp (plV xr 0).length dp, .int .i64 (lenT xr : Int), .slice qs (smV xr).length ds].toArray 76)] ++ R) entD ?_
      refine ok_meet (γ := Unit) (fun _ ρ L => bad1 seg ⟨xf, xn, xr⟩ = false ∧ bad2 k (acc.map Sm.s) ⟨xf, xn, xr⟩ = false ∧ bad3 seg fs.length k ⟨xf, xn, xr⟩ = false ∧ Knows ρ [(0, .pointer (some ⟨tb, 0, none⟩)), (3, v), (4, .slice (some ⟨bu, ou, none⟩) fv.length cf), (5, .int .i64 (k : Int)), (7, .pointer (some ⟨b7, 0, none⟩)), (8, .bool torn), (13, .slice (some ⟨bu, ou, none⟩) fv.length cf), (14, .int .i64 fv.length), (15, .int .i64 k)] ∧ L = [row 76 5 v (acc.map sgV), row 76 5 (.slice (some ⟨bu, ou, none⟩) fv.length cf) fv, tpP tb b name (seg : Int) vs fault, diskP b D, P2, pts b7 (.cells [.string xf, .int .u64 (xn : Int), .slice qp (plV xr 0).length dp, .int .i64 (lenT xr : Int), .slice qs (smV xr).length ds].toArray 76)] ++ R) ?_ ?_
      · generalize nextS (acc.map Sm.s) = nx at hN hnx hb2
        cases t4 : decide ((xn : Int).tmod (seg : Int) = 0) with
        | false =>
          have t5 : (!decide ((xn : Int).tmod (seg : Int) = 0)) = true := by rw [t4]; rfl
          rw [if_pos (by rw [hb1, t5]; rfl)] at hrs
          subst hrs
          repeat' (first | (refine go_Y ?_; intros) | (refine gs_Y ?_ ?_ <;> (intro hgd; try (simp only [Bool.not_true, Bool.not_false] at hgd))) | (refine gc_Y ?_ ?_ <;> intro _) | fail)
          (refine rt_Y (y := (vs, [], P2)) (hrs := Tryz.results40) (hv := ?_) (hφ := ?_))
          · rfl
          · exact ⟨hA.trans g2, fun h0 => absurd (show (7 : Int) = 0 from h0) (by decide)⟩
        | true =>
          have t5 : (!decide ((xn : Int).tmod (seg : Int) = 0)) = false := by rw [t4]; rfl
          cases t6 : decide ((seg : Int) < ((plV xr 0).length : Int)) with
          | true =>
            rw [if_pos (by rw [hb1, t5, t6]; rfl)] at hrs
            subst hrs
            repeat' (first | (refine go_Y ?_; intros) | (refine gs_Y ?_ ?_ <;> (intro hgd; try (simp only [Bool.not_true, Bool.not_false] at hgd))) | (refine gc_Y ?_ ?_ <;> intro _) | fail)
            (refine rt_Y (y := (vs, [], P2)) (hrs := Tryz.results40) (hv := ?_) (hφ := ?_))
            · rfl
            · exact ⟨hA.trans g2, fun h0 => absurd (show (7 : Int) = 0 from h0) (by decide)⟩
          | false =>
            have hb1' : bad1 seg ⟨xf, xn, xr⟩ = false := by rw [hb1, t5, t6]; rfl
            rw [if_neg (by rw [hb1']; decide)] at hrs
            cases t7 : decide ((0 : Int) < (k : Int)) with
            | true =>
              cases t8 : decide ((xn : Int) = (nx : Int)) with
              | false =>
                have t9 : (!decide ((xn : Int) = (nx : Int))) = true := by rw [t8]; rfl
                rw [if_pos (by rw [hb2, t7, t9]; rfl)] at hrs
                subst hrs
                repeat' (first | (refine go_Y ?_; intros) | (refine gs_Y ?_ ?_ <;> (intro hgd; try (simp only [Bool.not_true, Bool.not_false] at hgd))) | (refine gc_Y ?_ ?_ <;> intro _) | fail)
                refine ok_drawL (cv := []) [6] ([pts b7 (.cells [.string xf, .int .u64 (xn : Int), .slice qp (plV xr 0).length dp, .int .i64 (lenT xr : Int), .slice qs (smV xr).length ds].toArray 76), row 76 5 v (acc.map sgV), P2]) (takeD) (by kernel_rfl) rfl (by decide +kernel) ?_
                repeat' (first | (refine go_Y ?_; intros) | (refine gs_Y ?_ ?_ <;> (intro hgd; try (simp only [Bool.not_true, Bool.not_false] at hgd))) | (refine gc_Y ?_ ?_ <;> intro _) | fail)
                refine clN_Y (hN) ?_
                intro _ _
                repeat' (first | (refine go_Y ?_; intros) | (refine gs_Y ?_ ?_ <;> (intro hgd; try (simp only [Bool.not_true, Bool.not_false] at hgd))) | (refine gc_Y ?_ ?_ <;> intro _) | fail)
                (refine rt_Y (y := (vs, [], P2)) (hrs := Tryz.results40) (hv := ?_) (hφ := ?_))
                · rfl
                · exact ⟨hA.trans g2, fun h0 => absurd (show (7 : Int) = 0 from h0) (by decide)⟩
              | true =>
                have t9 : (!decide ((xn : Int) = (nx : Int))) = false := by rw [t8]; rfl
                have hb2' : bad2 k (acc.map Sm.s) ⟨xf, xn, xr⟩ = false := by rw [hb2, t7, t9]; rfl
                rw [if_neg (by rw [hb2']; decide)] at hrs
                repeat' (first | (refine go_Y ?_; intros) | (refine gs_Y ?_ ?_ <;> (intro hgd; try (simp only [Bool.not_true, Bool.not_false] at hgd))) | (refine gc_Y ?_ ?_ <;> intro _) | fail)
                refine ok_drawL (cv := []) [6] ([pts b7 (.cells [.string xf, .int .u64 (xn : Int), .slice qp (plV xr 0).length dp, .int .i64 (lenT xr : Int), .slice qs (smV xr).length ds].toArray 76), row 76 5 v (acc.map sgV), P2]) (takeD) (by kernel_rfl) rfl (by decide +kernel) ?_
                repeat' (first | (refine go_Y ?_; intros) | (refine gs_Y ?_ ?_ <;> (intro hgd; try (simp only [Bool.not_true, Bool.not_false] at hgd))) | (refine gc_Y ?_ ?_ <;> intro _) | fail)
                refine clN_Y (hN) ?_
                intro _ _
                cases t10 : decide ((k : Int) < (fv.length : Int) - 1) with
                | true =>
                  cases t11 : decide (((plV xr 0).length : Int) = (seg : Int)) with
                  | false =>
                    have t12 : (!decide (((plV xr 0).length : Int) = (seg : Int))) = true := by rw [t11]; rfl
                    rw [if_pos (by rw [hb3, t10, t12]; rfl)] at hrs
                    subst hrs
                    repeat' (first | (refine go_Y ?_; intros) | (refine gs_Y ?_ ?_ <;> (intro hgd; try (simp only [Bool.not_true, Bool.not_false] at hgd))) | (refine gc_Y ?_ ?_ <;> intro _) | fail)
                    (refine rt_Y (y := (vs, [], P2)) (hrs := Tryz.results40) (hv := ?_) (hφ := ?_))
                    · rfl
                    · exact ⟨hA.trans g2, fun h0 => absurd (show (7 : Int) = 0 from h0) (by decide)⟩
                  | true =>
                    have t12 : (!decide (((plV xr 0).length : Int) = (seg : Int))) = false := by rw [t11]; rfl
                    have hb3' : bad3 seg fs.length k ⟨xf, xn, xr⟩ = false := by rw [hb3, t10, t12]; rfl
                    repeat' (first | (refine go_Y ?_; intros) | (refine gs_Y ?_ ?_ <;> (intro hgd; try (simp only [Bool.not_true, Bool.not_false] at hgd))) | (refine gc_Y ?_ ?_ <;> intro _) | fail)
                    exact cont_map (L' := [row 76 5 v (acc.map sgV), row 76 5 (.slice (some ⟨bu, ou, none⟩) fv.length cf) fv, tpP tb b name (seg : Int) vs fault, diskP b D, P2, pts b7 (.cells [.string xf, .int .u64 (xn : Int), .slice qp (plV xr 0).length dp, .int .i64 (lenT xr : Int), .slice qs (smV xr).length ds].toArray 76)] ++ R) entD (cont_meet () ⟨hb1', hb2', hb3', ⟨rfl, rfl, rfl, rfl, rfl, rfl, rfl, rfl, rfl, trivial⟩, rfl⟩)
                | false =>
                  have hb3' : bad3 seg fs.length k ⟨xf, xn, xr⟩ = false := by rw [hb3, t10]; rfl
                  repeat' (first | (refine go_Y ?_; intros) | (refine gs_Y ?_ ?_ <;> (intro hgd; try (simp only [Bool.not_true, Bool.not_false] at hgd))) | (refine gc_Y ?_ ?_ <;> intro _) | fail)
                  exact cont_map (L' := [row 76 5 v (acc.map sgV), row 76 5 (.slice (some ⟨bu, ou, none⟩) fv.length cf) fv, tpP tb b name (seg : Int) vs fault, diskP b D, P2, pts b7 (.cells [.string xf, .int .u64 (xn : Int), .slice qp (plV xr 0).length dp, .int .i64 (lenT xr : Int), .slice qs (smV xr).length ds].toArray 76)] ++ R) entD (cont_meet () ⟨hb1', hb2', hb3', ⟨rfl, rfl, rfl, rfl, rfl, rfl, rfl, rfl, rfl, trivial⟩, rfl⟩)
            | false =>
              have hb2' : bad2 k (acc.map Sm.s) ⟨xf, xn, xr⟩ = false := by rw [hb2, t7]; rfl
              rw [if_neg (by rw [hb2']; decide)] at hrs
              repeat' (first | (refine go_Y ?_; intros) | (refine gs_Y ?_ ?_ <;> (intro hgd; try (simp only [Bool.not_true, Bool.not_false] at hgd))) | (refine gc_Y ?_ ?_ <;> intro _) | fail)
              refine ok_drawL (cv := []) [6] ([pts b7 (.cells [.string xf, .int .u64 (xn : Int), .slice qp (plV xr 0).length dp, .int .i64 (lenT xr : Int), .slice qs (smV xr).length ds].toArray 76), row 76 5 v (acc.map sgV), P2]) (takeD) (by kernel_rfl) rfl (by decide +kernel) ?_
              cases t10 : decide ((k : Int) < (fv.length : Int) - 1) with
              | true =>
                cases t11 : decide (((plV xr 0).length : Int) = (seg : Int)) with
                | false =>
                  have t12 : (!decide (((plV xr 0).length : Int) = (seg : Int))) = true := by rw [t11]; rfl
                  rw [if_pos (by rw [hb3, t10, t12]; rfl)] at hrs
                  subst hrs
                  repeat' (first | (refine go_Y ?_; intros) | (refine gs_Y ?_ ?_ <;> (intro hgd; try (simp only [Bool.not_true, Bool.not_false] at hgd))) | (refine gc_Y ?_ ?_ <;> intro _) | fail)
                  (refine rt_Y (y := (vs, [], P2)) (hrs := Tryz.results40) (hv := ?_) (hφ := ?_))
                  · rfl
                  · exact ⟨hA.trans g2, fun h0 => absurd (show (7 : Int) = 0 from h0) (by decide)⟩
                | true =>
                  have t12 : (!decide (((plV xr 0).length : Int) = (seg : Int))) = false := by rw [t11]; rfl
                  have hb3' : bad3 seg fs.length k ⟨xf, xn, xr⟩ = false := by rw [hb3, t10, t12]; rfl
                  repeat' (first | (refine go_Y ?_; intros) | (refine gs_Y ?_ ?_ <;> (intro hgd; try (simp only [Bool.not_true, Bool.not_false] at hgd))) | (refine gc_Y ?_ ?_ <;> intro _) | fail)
                  exact cont_map (L' := [row 76 5 v (acc.map sgV), row 76 5 (.slice (some ⟨bu, ou, none⟩) fv.length cf) fv, tpP tb b name (seg : Int) vs fault, diskP b D, P2, pts b7 (.cells [.string xf, .int .u64 (xn : Int), .slice qp (plV xr 0).length dp, .int .i64 (lenT xr : Int), .slice qs (smV xr).length ds].toArray 76)] ++ R) entD (cont_meet () ⟨hb1', hb2', hb3', ⟨rfl, rfl, rfl, rfl, rfl, rfl, rfl, rfl, rfl, trivial⟩, rfl⟩)
              | false =>
                have hb3' : bad3 seg fs.length k ⟨xf, xn, xr⟩ = false := by rw [hb3, t10]; rfl
                repeat' (first | (refine go_Y ?_; intros) | (refine gs_Y ?_ ?_ <;> (intro hgd; try (simp only [Bool.not_true, Bool.not_false] at hgd))) | (refine gc_Y ?_ ?_ <;> intro _) | fail)
                exact cont_map (L' := [row 76 5 v (acc.map sgV), row 76 5 (.slice (some ⟨bu, ou, none⟩) fv.length cf) fv, tpP tb b name (seg : Int) vs fault, diskP b D, P2, pts b7 (.cells [.string xf, .int .u64 (xn : Int), .slice qp (plV xr 0).length dp, .int .i64 (lenT xr : Int), .slice qs (smV xr).length ds].toArray 76)] ++ R) entD (cont_meet () ⟨hb1', hb2', hb3', ⟨rfl, rfl, rfl, rfl, rfl, rfl, rfl, rfl, rfl, trivial⟩, rfl⟩)
      · rintro _ ρ L ⟨hb1', hb2', hb3', hk, rfl⟩
        refine ok_regs hk ?_
        rw [if_neg (by rw [hb1']; decide), if_neg (by rw [hb2']; decide), if_neg (by rw [hb3']; decide)] at hrs
        refine ok_meet (γ := Dk) (fun g ρ L => g.Ok ∧ g.loose.length ≤ 1000000 + (k + 1) ∧ loadL seg fs.length (fs.drop (k + 1)) (k + 1) (addL (acc.map Sm.s) ⟨xf, xn, xr⟩) g = res ∧ Knows ρ [(0, .pointer (some ⟨tb, 0, none⟩)), (3, v), (4, .slice (some ⟨bu, ou, none⟩) fv.length cf), (5, .int .i64 (k : Int)), (7, .pointer (some ⟨b7, 0, none⟩)), (13, .slice (some ⟨bu, ou, none⟩) fv.length cf), (14, .int .i64 fv.length), (15, .int .i64 k)] ∧ L = [row 76 5 v (acc.map sgV), row 76 5 (.slice (some ⟨bu, ou, none⟩) fv.length cf) fv, tpP tb b name (seg : Int) vs fault, diskP b g, P2, pts b7 (.cells [.string xf, .int .u64 (xn : Int), .slice qp (plV xr 0).length dp, .int .i64 (lenT xr : Int), .slice qs (smV xr).length ds].toArray 76)] ++ R) ?_ ?_
        · cases torn with
          | false =>
            rw [if_neg (by decide)] at hrs
            repeat' (first | (refine go_Y ?_; intros) | (refine gs_Y ?_ ?_ <;> (intro hgd; try (simp only [Bool.not_true, Bool.not_false] at hgd))) | (refine gc_Y ?_ ?_ <;> intro _) | fail)
            exact cont_map (L' := [row 76 5 v (acc.map sgV), row 76 5 (.slice (some ⟨bu, ou, none⟩) fv.length cf) fv, tpP tb b name (seg : Int) vs fault, diskP b D, P2, pts b7 (.cells [.string xf, .int .u64 (xn : Int), .slice qp (plV xr 0).length dp, .int .i64 (lenT xr : Int), .slice qs (smV xr).length ds].toArray 76)] ++ R) entD (cont_meet D ⟨hD, by omega, hrs, ⟨rfl, rfl, rfl, rfl, rfl, rfl, rfl, rfl, trivial⟩, rfl⟩)
          | true =>
            rw [if_pos rfl] at hrs
            have hC := cut_spec tb b name (seg : Int) vs fault D ⟨⟨xf, xn, xr⟩, ⟨_, hp'⟩, ⟨_, hs'⟩⟩ P2 ⟨k1, k2⟩ hD (by omega) (by show xf.size ≤ _; omega)
            have hCl := cutT_loose D ⟨xf, xn, xr⟩
            have hCo := cutT_ok hD ⟨xf, xn, xr⟩
            dsimp only [sgV] at hC
            generalize cutT D ⟨xf, xn, xr⟩ = ct at hC hCl hCo hrs
            obtain ⟨D', e'⟩ := ct
            dsimp only at hC hCl hCo hrs
            cases t4 : decide (e' = 0) with
            | false =>
              have t5 : (!decide (e' = 0)) = true := by rw [t4]; rfl
              rw [if_pos (of_decide_eq_false t4)] at hrs
              subst hrs
              have hle : loadE (D', e', acc.map Sm.s) = (D', e', acc.map Sm.s) := by show (if e' ≠ 0 then _ else _) = _; rw [if_pos (of_decide_eq_false t4)]
              rw [hle]
              repeat' (first | (refine go_Y ?_; intros) | (refine gs_Y ?_ ?_ <;> (intro hgd; try (simp only [Bool.not_true, Bool.not_false] at hgd))) | (refine gc_Y ?_ ?_ <;> intro _) | fail)
              refine cl_Y (hC) ?_
              intro _ _
              repeat' (first | (refine go_Y ?_; intros) | (refine gs_Y ?_ ?_ <;> (intro hgd; try (simp only [Bool.not_true, Bool.not_false] at hgd))) | (refine gc_Y ?_ ?_ <;> intro _) | fail)
              (refine rt_Y (y := (vs, [], P2)) (hrs := Tryz.results40) (hv := ?_) (hφ := ?_))
              · rfl
              · exact ⟨hA.trans g2, fun h0 => absurd h0 (of_decide_eq_false t4)⟩
            | true =>
              have t5 : (!decide (e' = 0)) = false := by rw [t4]; rfl
              rw [if_neg (fun h => h (of_decide_eq_true t4))] at hrs
              repeat' (first | (refine go_Y ?_; intros) | (refine gs_Y ?_ ?_ <;> (intro hgd; try (simp only [Bool.not_true, Bool.not_false] at hgd))) | (refine gc_Y ?_ ?_ <;> intro _) | fail)
              refine cl_Y (hC) ?_
              intro _ _
              repeat' (first | (refine go_Y ?_; intros) | (refine gs_Y ?_ ?_ <;> (intro hgd; try (simp only [Bool.not_true, Bool.not_false] at hgd))) | (refine gc_Y ?_ ?_ <;> intro _) | fail)
              exact cont_map (L' := [row 76 5 v (acc.map sgV), row 76 5 (.slice (some ⟨bu, ou, none⟩) fv.length cf) fv, tpP tb b name (seg : Int) vs fault, diskP b D', P2, pts b7 (.cells [.string xf, .int .u64 (xn : Int), .slice qp (plV xr 0).length dp, .int .i64 (lenT xr : Int), .slice qs (smV xr).length ds].toArray 76)] ++ R) entD (cont_meet D' ⟨hCo, by omega, hrs, ⟨rfl, rfl, rfl, rfl, rfl, rfl, rfl, rfl, trivial⟩, rfl⟩)
        · rintro D2 ρ L ⟨hD2, hDl2, hrs2, hk, rfl⟩
          refine ok_regs hk ?_
          have hEx : SgR P2 ⟨⟨xf, xn, xr⟩, ⟨_, hp'⟩, ⟨_, hs'⟩⟩ := ⟨k1, k2⟩
          have hsa2 : ∀ x ∈ acc, SgR P2 x ∧ AcB x.s := fun x hx => ⟨(hsa x hx).1.ext g2, (hsa x hx).2⟩
          cases t4 : decide ((0 : Int) < ((plV xr 0).length : Int)) with
          | false =>
            have e1 : addL (acc.map Sm.s) ⟨xf, xn, xr⟩ = acc.map Sm.s := by
              unfold addL
              rw [if_neg (by have := of_decide_eq_false t4; dsimp only; omega)]
            rw [e1] at hrs2
            repeat' (first | (refine go_Y ?_; intros) | (refine gs_Y ?_ ?_ <;> (intro hgd; try (simp only [Bool.not_true, Bool.not_false] at hgd))) | (refine gc_Y ?_ ?_ <;> intro _) | fail)
            refine cont_map (L' := [row 76 5 v (acc.map sgV), row 76 5 (.slice (some ⟨bu, ou, none⟩) fv.length cf) fv, tpP tb b name (seg : Int) vs fault, diskP b D2, P2] ++ R) entD ?_
            exact cont_back (k + 1, acc, ⟨v, hvv⟩, D2, P2) ⟨hj0, hA.trans g2, hsa2, by dsimp only; omega, hD2, hDl2, hrs2, ⟨rfl, rfl, rfl, rfl, rfl, rfl, trivial⟩, rfl⟩ (by show fs.length - (k + 1) < fs.length - k; omega)
          | true =>
            have e1 : addL (acc.map Sm.s) ⟨xf, xn, xr⟩ = (acc ++ ([⟨⟨xf, xn, xr⟩, ⟨.slice qp (plV xr 0).length dp, hp'⟩, ⟨.slice qs (smV xr).length ds, hs'⟩⟩] : List Sm)).map Sm.s := by
              unfold addL
              rw [if_pos (by have := of_decide_eq_true t4; dsimp only; omega), List.map_append]
              rfl
            rw [e1] at hrs2
            have e2 : (acc ++ ([⟨⟨xf, xn, xr⟩, ⟨.slice qp (plV xr 0).length dp, hp'⟩, ⟨.slice qs (smV xr).length ds, hs'⟩⟩] : List Sm)).map sgV = acc.map sgV ++ [[.string xf, .int .u64 (xn : Int), .slice qp (plV xr 0).length dp, .int .i64 (lenT xr : Int), .slice qs (smV xr).length ds]] := by rw [List.map_append]; rfl
            repeat' (first | (refine go_Y ?_; intros) | (refine gs_Y ?_ ?_ <;> (intro hgd; try (simp only [Bool.not_true, Bool.not_false] at hgd))) | (refine gc_Y ?_ ?_ <;> intro _) | fail)
            trace_state
            rename_i w hw
            refine cont_map (L' := [row 76 5 w ((acc ++ ([⟨⟨xf, xn, xr⟩, ⟨.slice qp (plV xr 0).length dp, hp'⟩, ⟨.slice qs (smV xr).length ds, hs'⟩⟩] : List Sm)).map sgV), row 76 5 (.slice (some ⟨bu, ou, none⟩) fv.length cf) fv, tpP tb b name (seg : Int) vs fault, diskP b D2, P2] ++ R) (by rw [e2]; exact entD) ?_
            exact cont_back (k + 1, acc ++ ([⟨⟨xf, xn, xr⟩, ⟨.slice qp (plV xr 0).length dp, hp'⟩, ⟨.slice qs (smV xr).length ds, hs'⟩⟩] : List Sm), ⟨w, hw⟩, D2, P2) ⟨hj0, hA.trans g2, (fun x hx => by
              rcases List.mem_append.1 hx with h | h
              · exact hsa2 x h
              · obtain rfl := List.mem_singleton.1 h
                exact ⟨hEx, hff, by show xr.length ≤ _; omega⟩), by dsimp only; rw [List.length_append, List.length_singleton]; omega, hD2, hDl2, hrs2, ⟨rfl, rfl, rfl, rfl, rfl, rfl, trivial⟩, rfl⟩ (by show fs.length - (k + 1) < fs.length - k; omega)
end Go.Proofs.YtadgdikijdmceaaGreat
set_option linter.unusedSimpArgs false
set_option linter.unusedVariables false
set_option maxRecDepth 100000
namespace Go.Proofs.YtadgdikijdmceaaGreat
open Go Go.Fx Go.Proofs Go.Pl

def topenT (d : Dk) (name : BA) (seg : Nat) : Dk × Int × List Sg :=
  if (d.read name 0 0).2 ≠ 0 ∧ (d.read name 0 0).2 ≠ 3 then (d, (d.read name 0 0).2, []) else loadT d name seg
def tpV (t : Nat) (e : Int) : Value := .pointer (bif decide (e = 0) then some ⟨t, 0, none⟩ else none)
set_option maxHeartbeats 4000000 in
theorem tOpen_spec (b : Nat) (d : Dk) (name : BA) (seg : Nat) (A : HProp) (hz0 : 1 ≤ name.size) (hz : name.size ≤ 32) (hs0 : 1 ≤ seg) (hs1 : seg ≤ 65536) (hnm : ∀ x ∈ d.files.map (·.1), mayN x = true) (hc : d.files.length ≤ 1000000) (hd : d.Ok) (hlo : d.loose.length ≤ 1000000) :
    FSpec Tryz.prog 12 [.pointer (some ⟨b, 0, none⟩), .string name, .int .i64 (seg : Int)] [diskP b d, A] (Nat × Value × List Sm × HProp)
      (fun y => Ext A y.2.2.2 ∧ ((topenT d name seg).2.1 = 0 → SgsR y.2.2.2 y.2.1 y.2.2.1 ∧ y.2.2.1.map Sm.s = (topenT d name seg).2.2))
      (fun y => .tuple #[tpV y.1 (topenT d name seg).2.1, .int .i64 (topenT d name seg).2.1]) (fun y => [tpP y.1 b name (seg : Int) y.2.1 0, diskP b (topenT d name seg).1, y.2.2.2]) := by
  have t1 : decide ((name.size : Int) < 1) = false := decide_eq_false (by omega)
  have t2 : decide ((32 : Int) < (name.size : Int)) = false := decide_eq_false (by omega)
  have t3 : decide ((seg : Int) < 1) = false := decide_eq_false (by omega)
  have t4 : decide (65536 < (seg : Int)) = false := decide_eq_false (by omega)
  have hsz := sizeD_spec b d name (by omega)
  have hL := fun tb => load_spec tb b name seg (.slice none 0 0) 0 d A (by omega) hs0 hs1 hnm hc hd hlo
  unfold topenT tpV
  generalize (if (d.read name 0 0).2 = 0 then ((ftext name d.files).size : Int) else 0) = z at hsz
  generalize (d.read name 0 0).2 = e at hsz ⊢
  generalize loadT d name seg = ld at hL ⊢
  obtain ⟨d', e', l'⟩ := ld
  dsimp only at hL ⊢
  have good : ∀ (he : ¬ (e ≠ 0 ∧ e ≠ 3)), FSpec Tryz.prog 12 [.pointer (some ⟨b, 0, none⟩), .string name, .int .i64 (seg : Int)] [diskP b d, A] (Nat × Value × List Sm × HProp)
      (fun y => Ext A y.2.2.2 ∧ (e' = 0 → SgsR y.2.2.2 y.2.1 y.2.2.1 ∧ y.2.2.1.map Sm.s = l'))
      (fun y => .tuple #[.pointer (bif decide (e' = 0) then some ⟨y.1, 0, none⟩ else none), .int .i64 e']) (fun y => [tpP y.1 b name (seg : Int) y.2.1 0, diskP b d', y.2.2.2]) := by
    intro he
    cases t6 : decide (e' = 0) with
    | true =>
      have t7 : (!decide (e' = 0)) = false := by rw [t6]; rfl
      obtain rfl := of_decide_eq_true t6
      cases t8 : decide (e = 0) with
      | true =>
        have t9 : (!decide (e = 0)) = false := by rw [t8]; rfl
        refine spec_intro [] _ Tryz.func12 rfl Tryz.ntmps12 (by rfl) (fun w0 R => ?_)
        repeat' (first | (refine go_Y ?_; intros) | (refine gs_Y ?_ ?_ <;> (intro hgd; try (simp only [Bool.not_true, Bool.not_false] at hgd))) | (refine gc_Y ?_ ?_ <;> intro _) | fail)
        rename_i tb
        refine cl_Y (hsz) ?_
        intro _ _
        repeat' (first | (refine go_Y ?_; intros) | (refine gs_Y ?_ ?_ <;> (intro hgd; try (simp only [Bool.not_true, Bool.not_false] at hgd))) | (refine gc_Y ?_ ?_ <;> intro _) | fail)
        refine cl_Y (hL tb) ?_
        rintro ⟨v, l, P⟩ ⟨h1, h2⟩
        repeat' (first | (refine go_Y ?_; intros) | (refine gs_Y ?_ ?_ <;> (intro hgd; try (simp only [Bool.not_true, Bool.not_false] at hgd))) | (refine gc_Y ?_ ?_ <;> intro _) | fail)
        (refine rt_Y (y := (tb, v, l, P)) (hrs := Tryz.results12) (hv := ?_) (hφ := ?_))
        · rfl
        · exact ⟨h1, h2⟩
      | false =>
        have t9 : (!decide (e = 0)) = true := by rw [t8]; rfl
        have t10 : (!decide (e = 3)) = false := by
          have : e = 3 := by have := of_decide_eq_false t8; omega
          rw [this]; rfl
        refine spec_intro [] _ Tryz.func12 rfl Tryz.ntmps12 (by rfl) (fun w0 R => ?_)
        repeat' (first | (refine go_Y ?_; intros) | (refine gs_Y ?_ ?_ <;> (intro hgd; try (simp only [Bool.not_true, Bool.not_false] at hgd))) | (refine gc_Y ?_ ?_ <;> intro _) | fail)
        rename_i tb
        refine cl_Y (hsz) ?_
        intro _ _
        repeat' (first | (refine go_Y ?_; intros) | (refine gs_Y ?_ ?_ <;> (intro hgd; try (simp only [Bool.not_true, Bool.not_false] at hgd))) | (refine gc_Y ?_ ?_ <;> intro _) | fail)
        refine cl_Y (hL tb) ?_
        rintro ⟨v, l, P⟩ ⟨h1, h2⟩
        repeat' (first | (refine go_Y ?_; intros) | (refine gs_Y ?_ ?_ <;> (intro hgd; try (simp only [Bool.not_true, Bool.not_false] at hgd))) | (refine gc_Y ?_ ?_ <;> intro _) | fail)
        (refine rt_Y (y := (tb, v, l, P)) (hrs := Tryz.results12) (hv := ?_) (hφ := ?_))
        · rfl
        · exact ⟨h1, h2⟩
    | false =>
      have t7 : (!decide (e' = 0)) = true := by rw [t6]; rfl
      cases t8 : decide (e = 0) with
      | true =>
        have t9 : (!decide (e = 0)) = false := by rw [t8]; rfl
        refine spec_intro [] _ Tryz.func12 rfl Tryz.ntmps12 (by rfl) (fun w0 R => ?_)
        repeat' (first | (refine go_Y ?_; intros) | (refine gs_Y ?_ ?_ <;> (intro hgd; try (simp only [Bool.not_true, Bool.not_false] at hgd))) | (refine gc_Y ?_ ?_ <;> intro _) | fail)
        rename_i tb
        refine cl_Y (hsz) ?_
        intro _ _
        repeat' (first | (refine go_Y ?_; intros) | (refine gs_Y ?_ ?_ <;> (intro hgd; try (simp only [Bool.not_true, Bool.not_false] at hgd))) | (refine gc_Y ?_ ?_ <;> intro _) | fail)
        refine cl_Y (hL tb) ?_
        rintro ⟨v, l, P⟩ ⟨h1, h2⟩
        repeat' (first | (refine go_Y ?_; intros) | (refine gs_Y ?_ ?_ <;> (intro hgd; try (simp only [Bool.not_true, Bool.not_false] at hgd))) | (refine gc_Y ?_ ?_ <;> intro _) | fail)
        (refine rt_Y (y := (tb, v, l, P)) (hrs := Tryz.results12) (hv := ?_) (hφ := ?_))
        · rfl
        · exact ⟨h1, h2⟩
      | false =>
        have t9 : (!decide (e = 0)) = true := by rw [t8]; rfl
        have t10 : (!decide (e = 3)) = false := by
          have : e = 3 := by have := of_decide_eq_false t8; omega
          rw [this]; rfl
        refine spec_intro [] _ Tryz.func12 rfl Tryz.ntmps12 (by rfl) (fun w0 R => ?_)
        repeat' (first | (refine go_Y ?_; intros) | (refine gs_Y ?_ ?_ <;> (intro hgd; try (simp only [Bool.not_true, Bool.not_false] at hgd))) | (refine gc_Y ?_ ?_ <;> intro _) | fail)
        rename_i tb
        refine cl_Y (hsz) ?_
        intro _ _
        repeat' (first | (refine go_Y ?_; intros) | (refine gs_Y ?_ ?_ <;> (intro hgd; try (simp only [Bool.not_true, Bool.not_false] at hgd))) | (refine gc_Y ?_ ?_ <;> intro _) | fail)
        refine cl_Y (hL tb) ?_
        rintro ⟨v, l, P⟩ ⟨h1, h2⟩
        repeat' (first | (refine go_Y ?_; intros) | (refine gs_Y ?_ ?_ <;> (intro hgd; try (simp only [Bool.not_true, Bool.not_false] at hgd))) | (refine gc_Y ?_ ?_ <;> intro _) | fail)
        (refine rt_Y (y := (tb, v, l, P)) (hrs := Tryz.results12) (hv := ?_) (hφ := ?_))
        · rfl
        · exact ⟨h1, h2⟩
  by_cases he : e ≠ 0 ∧ e ≠ 3
  · rw [if_pos he]
    dsimp only
    have t5 : (!decide (e = 0)) = true := by rw [decide_eq_false he.1]; rfl
    have t6 : (!decide (e = 3)) = true := by rw [decide_eq_false he.2]; rfl
    rw [decide_eq_false he.1]
    refine spec_intro [] _ Tryz.func12 rfl Tryz.ntmps12 (by rfl) (fun w0 R => ?_)
    repeat' (first | (refine go_Y ?_; intros) | (refine gs_Y ?_ ?_ <;> (intro hgd; try (simp only [Bool.not_true, Bool.not_false] at hgd))) | (refine gc_Y ?_ ?_ <;> intro _) | fail)
    rename_i tb
    refine cl_Y (hsz) ?_
    intro _ _
    repeat' (first | (refine go_Y ?_; intros) | (refine gs_Y ?_ ?_ <;> (intro hgd; try (simp only [Bool.not_true, Bool.not_false] at hgd))) | (refine gc_Y ?_ ?_ <;> intro _) | fail)
    (refine rt_Y (y := (tb, .slice none 0 0, [], A)) (hrs := Tryz.results12) (hv := ?_) (hφ := ?_))
    · rfl
    · exact ⟨.refl _, fun h => absurd h he.1⟩
  · rw [if_neg he]
    exact good he
end Go.Proofs.YtadgdikijdmceaaGreat
