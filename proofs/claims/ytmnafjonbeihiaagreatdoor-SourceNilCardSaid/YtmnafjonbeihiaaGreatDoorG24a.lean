/- Texts merged: SuS SuT. -/
import Derived.Test.YtmnafjonbeihiaaGreatDoorH29
import Derived.Test.YtmnafjonbeihiaaGreatDoorG12
import Derived.Test.YtmnafjonbeihiaaGreatDoorFwFv
import Derived.Test.YtmnafjonbeihiaaGreatDoorG1
import Derived.Test.YtmnafjonbeihiaaGreatDoorJ2
import Derived.Test.YtmnafjonbeihiaaGreatDoorG3
import Derived.Lib.ValidLaws
set_option linter.unusedSimpArgs false
set_option linter.unusedVariables false
set_option maxRecDepth 100000
namespace Go.Pl
open Go
def nameB (s : BA) : BA := putRB [⟨5, 0, 0, s⟩]
def colB (s : BA) (c : Co) : BA := s ++ nameB c.name ++ ⟨#[b8 c.kind, b8 (if c.null then 1 else 0)]⟩
def tabB (s : BA) (t : Tc) : BA := t.cols.foldl colB (s ++ nameB t.name ++ oneB t.cols.length) ++ ⟨#[b8 t.key, b8 (t.ref + 1), b8 (t.par + 1)]⟩
def putSB (s : Sc) : BA := s.foldl tabB (oneB s.length)
theorem name_valid {s : BA} (h : nameS s = true) : validS s = true ∧ s.size ≤ 16 := by
  unfold nameS at h
  simp only [Bool.and_eq_true, decide_eq_true_eq, List.all_eq_true] at h
  refine ⟨?_, h.2.2⟩
  unfold validS
  have hl : ∀ b ∈ s.data.toList.take s.data.toList.length, b.toNat < 128 := fun b hb => by
    have h1 := h.1 b (List.mem_of_mem_take hb)
    unfold nameC at h1
    simp only [Bool.not_eq_true', Bool.and_eq_false_imp, Bool.or_eq_true, decide_eq_true_eq, Bool.or_eq_false_iff, decide_eq_false_iff_not] at h1
    rcases Nat.lt_or_ge b.toNat 128 with h2 | h2
    · exact h2
    · have := h1 (.inr (by omega))
      omega
  rw [Lib.validD_ascii _ _ hl, List.drop_length]
  rfl
theorem name_row {s : BA} (h : nameS s = true) : rowB [⟨5, 0, 0, s⟩] = true ∧ (∀ v ∈ [(⟨5, 0, 0, s⟩ : Vl)], v.wf) := by
  obtain ⟨h1, h2⟩ := name_valid h
  constructor
  · unfold rowB checkV wantV
    simp [h1]
    omega
  · intro v hv
    rw [List.mem_singleton.1 hv]
    exact ⟨show (0 : Int) ≤ 5 by decide, show (5 : Int) ≤ 255 by decide, show (-9223372036854775808 : Int) ≤ 0 by decide, show (0 : Int) ≤ 9223372036854775807 by decide, show (0 : Int) ≤ 0 by decide, show (0 : Int) ≤ 18446744073709551615 by decide, by show s.size ≤ _; omega⟩
theorem nameB_size {s : BA} (h : nameS s = true) : (nameB s).size ≤ 103 := by
  have h1 := (name_row h).1
  unfold rowB at h1
  simp only [Bool.and_eq_true, decide_eq_true_eq, List.all_eq_true] at h1
  have h2 := putLB_size h1.2.2 (oneB 1)
  unfold nameB putRB
  rw [oneB_size] at h2
  exact h2
structure TabN (t : Tc) : Prop where
  name : nameS t.name = true
  cols : ∀ c ∈ t.cols, nameS c.name = true ∧ 1 ≤ c.kind ∧ c.kind ≤ 5
  len : t.cols.length ≤ 8
  ref : -1 ≤ t.ref ∧ t.ref ≤ 8
  par : -1 ≤ t.par ∧ t.par ≤ 12
theorem tableS_n {ahead : Sc} {ds : List Int} {t : Tc} {d : Int} (ha : ahead.length ≤ 12) (h : tableS ahead ds t = some d) : ((∀ c ∈ t.cols, nameS c.name = true ∧ 1 ≤ c.kind ∧ c.kind ≤ 5) ∧ t.cols.length ≤ 8) ∧ (-1 ≤ t.ref ∧ t.ref ≤ 8) ∧ (-1 ≤ t.par ∧ t.par ≤ 12) := by
  have hp := tableS_par h
  have hk := tableS_ok h
  have hk1 := hk.refL
  have hk2 := hk.len
  refine ⟨?_, by omega, by omega⟩
  unfold tableS at h
  split at h
  · cases h
  rename_i h1
  split at h
  · cases h
  rename_i h2
  simp only [not_or] at h2
  refine ⟨fun c hc => ?_, by omega⟩
  have h3 : namedS (t.cols.map (·.name)) = true := by simpa using h2.2.2.1
  unfold namedS at h3
  simp only [Bool.and_eq_true, List.all_eq_true] at h3
  simp only [List.any_eq_true, not_exists, not_and, Bool.or_eq_true, decide_eq_true_eq, not_or] at h1
  have := h1 c hc
  exact ⟨h3.1 _ (List.mem_map_of_mem hc), by omega, by omega⟩
theorem goD_n : ∀ {rest ahead : Sc} {ds out : List Int}, ahead.length + rest.length ≤ 12 → goD ahead ds rest = some out → ∀ t ∈ rest, ((∀ c ∈ t.cols, nameS c.name = true ∧ 1 ≤ c.kind ∧ c.kind ≤ 5) ∧ t.cols.length ≤ 8) ∧ (-1 ≤ t.ref ∧ t.ref ≤ 8) ∧ (-1 ≤ t.par ∧ t.par ≤ 12)
  | [], _, _, _, _, _, t, ht => by simp at ht
  | t :: rest, ahead, ds, out, hl, h, u, hu => by
    rw [List.length_cons] at hl
    unfold goD at h
    split at h
    · cases h
    · rename_i d hd
      rcases List.mem_cons.1 hu with rfl | hu
      · exact tableS_n (by omega) hd
      · exact goD_n (by rw [List.length_append, List.length_singleton]; omega) h u hu
theorem checkS_n {s : Sc} (h : checkS s = true) : (∀ t ∈ s, TabN t) ∧ s.length ≤ 12 := by
  obtain ⟨_, _, _, _, h12⟩ := checkS_ok h
  refine ⟨fun t ht => ?_, h12⟩
  unfold checkS depthsS at h
  split at h
  · simp at h
  split at h
  · simp at h
  · rename_i ds hd
    split at h
    · rename_i hn
      unfold namedS at hn
      simp only [Bool.and_eq_true, List.all_eq_true] at hn
      obtain ⟨⟨a, b⟩, c, d⟩ := goD_n (by simpa using h12) hd t ht
      exact ⟨hn.1 _ (List.mem_map_of_mem ht), a, b, c, d⟩
    · simp at h
theorem colB_size {s : BA} {c : Co} (h : nameS c.name = true) : (colB s c).size ≤ s.size + 105 := by
  have := nameB_size h
  unfold colB
  rw [ByteArray.size_append, ByteArray.size_append]
  show s.size + (nameB c.name).size + 2 ≤ _
  omega
theorem cols_size : ∀ (l : List Co) (s : BA), (∀ c ∈ l, nameS c.name = true) → (l.foldl colB s).size ≤ s.size + 105 * l.length
  | [], s, _ => by simp
  | c :: l, s, h => by
    have h1 := cols_size l (colB s c) (fun x hx => h x (List.mem_cons_of_mem _ hx))
    have h2 := colB_size (s := s) (h c (List.mem_cons_self ..))
    rw [List.foldl_cons, List.length_cons]
    omega
theorem tabB_size {s : BA} {t : Tc} (h : TabN t) : (tabB s t).size ≤ s.size + 950 := by
  have h1 := cols_size t.cols (s ++ nameB t.name ++ oneB t.cols.length) (fun c hc => (h.cols c hc).1)
  have h2 := nameB_size h.name
  have h3 := h.len
  unfold tabB
  rw [ByteArray.size_append]
  rw [ByteArray.size_append, ByteArray.size_append, oneB_size] at h1
  show _ + 3 ≤ _
  omega
theorem tabs_size : ∀ (l : List Tc) (s : BA), (∀ t ∈ l, TabN t) → (l.foldl tabB s).size ≤ s.size + 950 * l.length
  | [], s, _ => by simp
  | t :: l, s, h => by
    have h1 := tabs_size l (tabB s t) (fun x hx => h x (List.mem_cons_of_mem _ hx))
    have h2 := tabB_size (s := s) (h t (List.mem_cons_self ..))
    rw [List.foldl_cons, List.length_cons]
    omega
theorem putSB_size {s : Sc} (h : checkS s = true) : (putSB s).size ≤ 11401 := by
  obtain ⟨h1, h2⟩ := checkS_n h
  have := tabs_size s (oneB s.length) h1
  rw [oneB_size] at this
  unfold putSB
  omega
theorem foldl_take_succ {α β : Type} (f : β → α → β) (a : β) {l : List α} {i : Nat} (h : i < l.length) : (l.take (i + 1)).foldl f a = f ((l.take i).foldl f a) l[i] := by
  rw [List.take_succ_eq_append_getElem h, List.foldl_append]; rfl
end Go.Pl
namespace Go.Proofs.YtmnafjonbeihiaaGreatDoor
open Go Go.Fx Go.Proofs Go.Pl
theorem extS_satL {A P : HProp} {L : List HProp} {h : Frag} (a : Ext A P) (s : SatL (P :: L) h) : SatL (A :: L) h := by
  obtain ⟨h1, h2, ha, l1, l2, hP, hL⟩ := s
  obtain ⟨h', l', hA⟩ := a h1 hP
  exact ⟨h', h2, ha.sub l' (.refl _), l'.trans l1, l2, hA, hL⟩
theorem fspecS_ext {P : Program} {f : FuncId} {args : List Value} {A : HProp} {ret : Value} (s : FSpec P f args [A] HProp (fun P' => Ext A P') (fun _ => ret) (fun P' => [P'])) : FSpec P f args [A] Unit (fun _ => True) (fun _ => ret) (fun _ => [A]) := by
  intro w0 w R hs
  refine (s w0 w R hs).mono ?_
  rintro e w' ⟨y, hE, rfl, hs'⟩
  exact ⟨(), trivial, rfl, hs'.map fun _ k => extS_satL hE k⟩
theorem sText_spec (s : BA) (A : HProp) (hU : UT A) (h : nameS s = true) : FSpec Tryz.prog 107 [.string s] [A] Unit (fun _ => True) (fun _ => .string (nameB s)) (fun _ => [A]) := by
  refine fspecS_ext ?_
  obtain ⟨h1, h2⟩ := name_row h
  refine spec_intro [] _ Tryz.func107 rfl Tryz.ntmps107 (by rfl) (fun w0 R => ?_)
  repeat' (first | (refine gY ?_; intros) | (refine hY ?_ ?_ <;> (intro hgd; try simp only [bn] at hgd)) | (refine jY ?_ ?_ <;> intro _) | fail)
  rename_i w hw
  refine ops_poolN (ty := 93) (n := 4) (v := w) (xs := [[.int .u8 5, .int .i64 0, .int .u64 0, .string s]]) (P := A) takeD ?_
  intro P hE hv
  refine cl_Y (putRow_spec w P [⟨5, 0, 0, s⟩] (hU.ext hE) hv h2 h1) ?_
  intro _ _
  repeat' (first | (refine gY ?_; intros) | (refine hY ?_ ?_ <;> (intro hgd; try simp only [bn] at hgd)) | (refine jY ?_ ?_ <;> intro _) | fail)
  (refine rt_Y (y := P) (hrs := Tryz.results107) (hv := ?_) (hφ := ?_))
  · rfl
  · exact hE
theorem b8_row (x : Int) : [Value.int .u8 (IntKind.u8.wrap x)] = [Value.int .u8 ((b8 x).toNat : Int)] := by
  have h : IntKind.u8.wrap x = x % 256 := rfl
  unfold b8
  rw [h]
  have : (UInt8.ofNat (x % 256).toNat).toNat = (x % 256).toNat := by
    rw [UInt8.toNat_ofNat']
    omega
  rw [this]
  congr 2
  omega
theorem rowB1 (x : Int) : [[Value.int .u8 (IntKind.u8.wrap x)]] = bytesV (oneB x) := by rw [b8_row]; rfl
theorem rowK {k : Int} (h0 : 0 ≤ k) (h1 : k ≤ 255) : [Value.int .u8 k] = [Value.int .u8 ((b8 k).toNat : Int)] := by
  have e : k = IntKind.u8.wrap k := by show k = k % 256; omega
  rw [← b8_row, ← e]
theorem rowB21 {k : Int} (h0 : 0 ≤ k) (h1 : k ≤ 255) : [[Value.int .u8 k], [Value.int .u8 1]] = bytesV ⟨#[b8 k, b8 1]⟩ := by rw [rowK h0 h1]; rfl
theorem rowB20 {k : Int} (h0 : 0 ≤ k) (h1 : k ≤ 255) : [[Value.int .u8 k], [Value.int .u8 0]] = bytesV ⟨#[b8 k, b8 0]⟩ := by rw [rowK h0 h1]; rfl
theorem rowB3 (x y z : Int) : [[Value.int .u8 (IntKind.u8.wrap x)], [Value.int .u8 (IntKind.u8.wrap y)], [Value.int .u8 (IntKind.u8.wrap z)]] = bytesV ⟨#[b8 x, b8 y, b8 z]⟩ := by rw [b8_row, b8_row, b8_row]; rfl
theorem rowB1c (x : Int) : [(Value.int .u8 (IntKind.u8.wrap x)).cells.toList] = bytesV (oneB x) := rowB1 x
theorem rowB3c (x y z : Int) : [(Value.int .u8 (IntKind.u8.wrap x)).cells.toList, (Value.int .u8 (IntKind.u8.wrap y)).cells.toList, (Value.int .u8 (IntKind.u8.wrap z)).cells.toList] = bytesV ⟨#[b8 x, b8 y, b8 z]⟩ := rowB3 x y z
end Go.Proofs.YtmnafjonbeihiaaGreatDoor
