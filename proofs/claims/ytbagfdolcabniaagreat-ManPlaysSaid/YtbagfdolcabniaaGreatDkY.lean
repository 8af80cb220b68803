/- The walks of disk.Names, and of the law's Files, Same. -/
import Derived.Test.YtbagfdolcabniaaGreatDkN
import Derived.Test.YtbagfdolcabniaaGreatG0
import Derived.Test.YtbagfdolcabniaaGreatDkL
import Derived.Test.YtbagfdolcabniaaGreatY
-- @DEFS Y
set_option linter.unusedSimpArgs false
set_option linter.unusedVariables false
set_option maxRecDepth 4000
namespace Go.Proofs.YtbagfdolcabniaaGreat
open Go Go.Fx Go.Proofs Go.Pl

theorem rowNilK {e n : Nat} {L : List HProp} {h : Frag} (s : SatL L h) : SatL (row e n (.slice none 0 0) [] :: L) h := satL_emp (A := row e n (.slice none 0 0) []) ⟨fun _ hx => by simp at hx, .inl ⟨rfl, rfl⟩⟩ s
theorem sortN_perm (l : List BA) : (sortN l).Perm l := by
  unfold sortN
  refine ((List.mergeSort_perm _ _).map _).trans ?_
  rw [List.map_map]
  refine List.Perm.of_eq ?_
  have : ∀ x ∈ l, ((fun x : List UInt8 => (⟨x.toArray⟩ : BA)) ∘ fun s : BA => s.data.toList) x = x := fun x _ => data_inj (by simp)
  rw [List.map_congr_left this]; simp
theorem sortN_len (l : List BA) : (sortN l).length = l.length := (sortN_perm l).length_eq
theorem sortN_mem {l : List BA} {x : BA} (h : x ∈ sortN l) : x ∈ l := (sortN_perm l).mem_iff.1 h
theorem mayN_size {s : BA} (h : mayN s = true) : s.size ≤ 64 := by
  unfold mayN at h
  simp only [Bool.and_eq_true, decide_eq_true_eq] at h
  exact h.2

theorem Names_spec (b : Nat) (d : Dk) (hnm : ∀ x ∈ d.files.map (·.1), mayN x = true) (hc : d.files.length ≤ 1099511627776) :
    FSpec Tryz.prog 27 [.pointer (some ⟨b, 0, none⟩)] [diskP b d] { v : Value // v.oneCell' = true } (fun _ => True) (fun y => y.1) (fun y => [row 9 1 y.1 ((sortN (d.files.map (·.1))).map fun s => [.string s]), diskP b d]) := by
  refine fspec_ex ?_
  rintro ⟨⟨m1, m2, v, vs⟩, hv, hvs⟩
  unfold diskL
  dsimp only at hv hvs ⊢
  have hl : (encF d.files).map (·.1) = d.files.map (·.1) := by simp [encF, List.map_map, Function.comp_def]
  have hS := fun p => sortedM_spec p m1 (encF d.files) (by simp [encF]; omega) (fun x hx => by
    have h1 : x.1 ∈ (encF d.files).map (·.1) := List.mem_map_of_mem hx
    rw [hl] at h1
    have := mayN_size (hnm _ h1); omega)
  rw [hl] at hS
  refine spec_intro [] _ Tryz.func27 rfl Tryz.ntmps27 (by rfl) (fun w0 R => ?_)
  repeat' (first | (refine go_Y ?_; intros) | (refine gs_Y ?_ ?_ <;> (intro hgd; try (simp only [Bool.not_true, Bool.not_false] at hgd))) | (refine gc_Y ?_ ?_ <;> intro _) | fail)
  refine cl_Y (keysM_spec m1) ?_
  intro p _
  repeat' (first | (refine go_Y ?_; intros) | (refine gs_Y ?_ ?_ <;> (intro hgd; try (simp only [Bool.not_true, Bool.not_false] at hgd))) | (refine gc_Y ?_ ?_ <;> intro _) | fail)
  refine cl_Y (hS p) ?_
  rintro ⟨w, hw⟩ _
  repeat' (first | (refine go_Y ?_; intros) | (refine gs_Y ?_ ?_ <;> (intro hgd; try (simp only [Bool.not_true, Bool.not_false] at hgd))) | (refine gc_Y ?_ ?_ <;> intro _) | fail)
  refine cont_map (fun _ h => disk_in (b := b) (m1 := m1) (m2 := m2) (d := d) (v := v) (vs := vs) hv hvs (Take.out takeD h)) ?_
  (refine rt_Y (y := ⟨w, hw⟩) (hrs := Tryz.results27) (hv := ?_) (hφ := ?_))
  · rfl
  · trivial

def fileV (x : BA × BA) : List Value := [.string x.1, .string x.2]
/-- What is told of files. -/
def fileN (T : FS) (n : BA) : BA × BA := (n, cut (ftext n T) 0 16777216)
def filesL (T : FS) : List (BA × BA) := (sortN (T.map (·.1))).map (fileN T)
theorem read_there {d : Dk} {n : BA} (hs : d.still = false) (hm : mayN n = true) (hh : n ∈ d.files.map (·.1)) : d.read n 0 16777216 = (cut (ftext n d.files) 0 16777216, 0) := by
  have hl : d.live [n] = 0 := by unfold Dk.live; rw [hs]; simp [hm]
  have hg : d.has n = true := by
    unfold Dk.has
    cases hf : fget n d.files with
    | none => exact absurd hh (fget_none hf)
    | some _ => rfl
  unfold Dk.read
  rw [if_neg (by simp [hl]), if_neg (by decide), hg]
  rfl

set_option maxHeartbeats 1000000 in
theorem Files_spec (b : Nat) (d : Dk) (hs : d.still = false) (hnm : ∀ x ∈ d.files.map (·.1), mayN x = true) (hc : d.files.length ≤ 999) :
    FSpec Tryz.prog 13 [.pointer (some ⟨b, 0, none⟩)] [diskP b d] { v : Value // v.oneCell' = true } (fun _ => True) (fun y => .tuple #[y.1, .bool true]) (fun y => [row 67 2 y.1 ((filesL d.files).map fileV), diskP b d]) := by
  refine spec_intro [] _ Tryz.func13 rfl Tryz.ntmps13 (by rfl) (fun w0 R => ?_)
  repeat' (first | (refine go_Y ?_; intros) | (refine gs_Y ?_ ?_ <;> (intro hgd; try (simp only [Bool.not_true, Bool.not_false] at hgd))) | (refine gc_Y ?_ ?_ <;> intro _) | fail)
  refine cl_Y (Names_spec b d hnm (by omega)) ?_
  rintro ⟨v, hv⟩ _
  dsimp only
  have hlen := sortN_len (d.files.map (·.1))
  have hmem : ∀ x ∈ sortN (d.files.map (·.1)), x ∈ d.files.map (·.1) := fun x hx => sortN_mem hx
  rw [show filesL d.files = (sortN (d.files.map (·.1))).map (fileN d.files) from rfl]
  generalize sortN (d.files.map (·.1)) = ns at hlen hmem
  rw [List.length_map] at hlen
  have hnl : (ns.map fun s => [Value.string s]).length = ns.length := by simp
  repeat' (first | (refine go_Y ?_; intros) | (refine gs_Y ?_ ?_ <;> (intro hgd; try (simp only [Bool.not_true, Bool.not_false] at hgd))) | (refine gc_Y ?_ ?_ <;> intro _) | fail)
  refine ok_map (fun _ h => rowNilK (e := 67) (n := 2) h) ?_
  refine ok_map (L' := [row 67 2 (.slice none 0 0) (((ns.take 0).map (fileN d.files)).map fileV), row 9 1 v (ns.map fun s => [Value.string s]), diskP b d] ++ R) entD ?_
  refine ok_learn (VwIn.slice (VwIn.there (VwIn.here (Vw.row (e := 9) (n := 1) (v := v) (xs := ns.map fun s => [Value.string s]))))) ?_
  rintro ⟨pv, cv, rfl⟩
  refine ok_loop' (γ := Nat × { v : Value // v.oneCell' = true }) (fun g ρ L => g.1 ≤ ns.length ∧ Knows ρ [(0, .pointer (some ⟨b, 0, none⟩)), (4, g.2.1), (5, .slice pv (ns.map fun s => [Value.string s]).length cv), (6, .int .i64 g.1)] ∧ L = [row 67 2 g.2.1 (((ns.take g.1).map (fileN d.files)).map fileV), row 9 1 (.slice pv (ns.map fun s => [Value.string s]).length cv) (ns.map fun s => [Value.string s]), diskP b d] ++ R) (fun g => ns.length - g.1) (0, ⟨.slice none 0 0, rfl⟩) ⟨by simp, ⟨rfl, rfl, rfl, rfl, trivial⟩, rfl⟩ ?_
  rintro ⟨i, ⟨vo, hvo⟩⟩ ρ L ⟨hi, hk, rfl⟩
  dsimp only at hi hk ⊢
  refine ok_regs hk ?_
  cases t1 : decide ((i : Int) < ((ns.map fun s => [Value.string s]).length : Int)) with
  | true =>
    have h : i < ns.length := by simp at t1; omega
    have t2 : decide ((i : Int) < 1000) = true := by simp; omega
    have hn1 : i < (ns.map fun s => [Value.string s]).length := by omega
    have hx : (ns.map fun s => [Value.string s])[i]? = some [Value.string ns[i]] := by rw [List.getElem?_map, List.getElem?_eq_getElem h]; rfl
    have htk : ns.take (i + 1) = ns.take i ++ [ns[i]] := List.take_succ_eq_append_getElem h
    have hin := hmem _ (List.getElem_mem h)
    refine ok_learn (VwIn.base (n := 1) (p := pv) (len := (ns.map fun s => [Value.string s]).length) (cap := cv) (xs := ns.map fun s => [Value.string s]) (VwIn.there (VwIn.here Vw.row)) (by intro e; rw [e] at hn1; simp at hn1)) ?_
    rintro ⟨bu, ou, rfl⟩
    generalize ns[i] = s at hx htk hin
    have hrd := read_spec b d s 0 16777216 (by have := mayN_size (hnm _ hin); omega)
    rw [read_there hs (hnm _ hin) hin] at hrd
    dsimp only at hrd
    have htl : (((ns.take i).map (fileN d.files)).map fileV).length = i := by simp; omega
    have htl2 : ((ns.take i).map (fileN d.files)).length = i := by simp; omega
    have htl3 : (ns.take i).length = i := by simp; omega
    have hf : ((ns.take (i + 1)).map (fileN d.files)).map fileV = ((ns.take i).map (fileN d.files)).map fileV ++ [[.string s, .string (cut (ftext s d.files) 0 16777216)]] := by rw [htk, List.map_append, List.map_append]; rfl
    generalize cut (ftext s d.files) 0 16777216 = tx at hrd hf
    repeat' (first | (refine go_Y ?_; intros) | (refine gs_Y ?_ ?_ <;> (intro hgd; try (simp only [Bool.not_true, Bool.not_false] at hgd))) | (refine gc_Y ?_ ?_ <;> intro _) | fail)
    refine cl_Y (hrd) ?_
    intro _ _
    repeat' (first | (refine go_Y ?_; intros) | (refine gs_Y ?_ ?_ <;> (intro hgd; try (simp only [Bool.not_true, Bool.not_false] at hgd))) | (refine gc_Y ?_ ?_ <;> intro _) | fail)
    rename_i v1 hv1 v2 hv2
    refine cont_map (L' := [row 67 2 v2 (((ns.take (i + 1)).map (fileN d.files)).map fileV), row 9 1 (.slice (some ⟨bu, ou, none⟩) (ns.map fun s => [Value.string s]).length cv) (ns.map fun s => [Value.string s]), diskP b d] ++ R) (by rw [hf]; exact entD) ?_
    refine cont_back (i + 1, ⟨v2, hv2⟩) ⟨h, ⟨rfl, rfl, rfl, rfl, trivial⟩, rfl⟩ (by dsimp only; omega)
  | false =>
    have hie : i = ns.length := by simp at t1; omega
    subst hie
    rw [List.take_length]
    repeat' (first | (refine go_Y ?_; intros) | (refine gs_Y ?_ ?_ <;> (intro hgd; try (simp only [Bool.not_true, Bool.not_false] at hgd))) | (refine gc_Y ?_ ?_ <;> intro _) | fail)
    (refine rt_Y (y := ⟨vo, hvo⟩) (hrs := Tryz.results13) (hv := ?_) (hφ := ?_))
    · rfl
    · trivial

instance flEq : SEq Tryz.prog 67 [.string, .string] := ⟨by kernel_rfl⟩
theorem eqF_self (x : BA × BA) : nilB .neq (eqL [.string, .string] [.string x.1, .string x.2] [.string x.1, .string x.2]) = false := by simp [eqL, eqD, nilB]
theorem filesSame_spec (u v : Value) (A B : HProp) (xs : List (BA × BA)) (hA : Vw A 2 u (xs.map fileV)) (hB : Vw B 2 v (xs.map fileV)) (hb : xs.length ≤ 4611686018427387904) :
    FSpec Tryz.prog 14 [u, v] [A, B] Unit (fun _ => True) (fun _ => .bool true) (fun _ => [A, B]) := by
  have hlm : (xs.map fileV).length = xs.length := List.length_map ..
  have hl : (!decide (((xs.map fileV).length : Int) = ((xs.map fileV).length : Int))) = false := by simp
  refine spec_intro [] _ Tryz.func14 rfl Tryz.ntmps14 (by rfl) (fun w0 R => ?_)
  refine ok_learn (VwIn.slice (VwIn.here hA)) ?_
  rintro ⟨pu, cu, rfl⟩
  refine ok_learn (VwIn.slice (VwIn.there (VwIn.here hB))) ?_
  rintro ⟨pv, cv, rfl⟩
  repeat' (first | (refine go_Y ?_; intros) | (refine gs_Y ?_ ?_ <;> (intro hgd; try (simp only [Bool.not_true, Bool.not_false] at hgd))) | (refine gc_Y ?_ ?_ <;> intro _) | fail)
  refine ok_loop' (γ := Nat) (fun n ρ L => n ≤ xs.length ∧ Knows ρ [(0, .slice pu (xs.map fileV).length cu), (1, .slice pv (xs.map fileV).length cv), (5, .int .i64 n)] ∧ L = [A, B] ++ R) (fun n => xs.length - n) 0 ⟨Nat.zero_le _, ⟨rfl, rfl, rfl, trivial⟩, rfl⟩ ?_
  rintro n ρ L ⟨hn, hk, rfl⟩
  refine ok_regs hk ?_
  cases t1 : decide ((n : Int) < ((xs.map fileV).length : Int)) with
  | true =>
    have h : n < xs.length := by have := of_decide_eq_true t1; omega
    have hn1 : n < (xs.map fileV).length := by omega
    have hx : (xs.map fileV)[n]? = some (fileV xs[n]) := by rw [List.getElem?_map, List.getElem?_eq_getElem h]; rfl
    refine ok_learn (VwIn.base (VwIn.here hA) (by intro e; rw [e] at hn1; simp at hn1)) ?_
    rintro ⟨bu, ou, rfl⟩
    refine ok_learn (VwIn.base (VwIn.there (VwIn.here hB)) (by intro e; rw [e] at hn1; simp at hn1)) ?_
    rintro ⟨bv, ov, rfl⟩
    have hs := eqF_self xs[n]
    generalize xs[n] = x at hx hs
    dsimp only [fileV] at hx
    repeat' (first | (refine go_Y ?_; intros) | (refine gs_Y ?_ ?_ <;> (intro hgd; try (simp only [Bool.not_true, Bool.not_false] at hgd))) | (refine gc_Y ?_ ?_ <;> intro _) | fail)
    refine cont_back (n + 1) ⟨h, ⟨rfl, rfl, rfl, trivial⟩, rfl⟩ (by omega)
  | false =>
    repeat' (first | (refine go_Y ?_; intros) | (refine gs_Y ?_ ?_ <;> (intro hgd; try (simp only [Bool.not_true, Bool.not_false] at hgd))) | (refine gc_Y ?_ ?_ <;> intro _) | fail)
    (refine rt_Y (y := ()) (hrs := Tryz.results14) (hv := ?_) (hφ := ?_))
    · rfl
    · trivial
end Go.Proofs.YtbagfdolcabniaaGreat
