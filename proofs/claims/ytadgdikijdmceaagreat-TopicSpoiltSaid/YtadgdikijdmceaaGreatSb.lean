import Derived.Test.YtadgdikijdmceaaGreatZ
set_option linter.unusedSimpArgs false
set_option linter.unusedVariables false
set_option maxRecDepth 100000
namespace Go.Proofs.YtadgdikijdmceaaGreat
open Go Go.Fx Go.Proofs

instance noEsc : SameI Tryz.prog 115 := ⟨fun x w => by
  have h := run_callFunc_extern (P := Tryz.prog) (f := 115) (fn := Tryz.f115) (e := Extern.AbiNoEscape.same) (by kernel_rfl) (by kernel_rfl) (by kernel_rfl) (by kernel_rfl) (by kernel_rfl) #[x] w
  rw [h, Lib.run_noEscape]; rfl⟩
theorem copyCheck_fresh (b : Nat) (v : Value) : FSpec Tryz.prog 97 [.pointer (some ⟨b, 0, none⟩)] [pts b (.cells [.pointer none, v].toArray 127)] Unit (fun _ => True) (fun _ => .tuple #[]) (fun _ => [pts b (.cells [.pointer (some ⟨b, 0, none⟩), v].toArray 127)]) := by
  refine spec_intro [125] _ Tryz.func97 rfl Tryz.ntmps97 (by rfl) (fun w0 R => ?_)
  repeat' (first | (refine go_Z ?_; intros) | (refine gs_Z ?_ ?_ <;> (intro hgd; try (simp only [Bool.not_true, Bool.not_false] at hgd))) | (refine gc_Z ?_ ?_ <;> intro _) | fail)
  refine ops_run (s_toUnsafe rfl rfl rfl memD (by simp) rfl rfl ?_)
  refine ops_run (s_same rfl rfl rfl ?_)
  refine ops_run (s_fromUnsafe rfl rfl memD (by kernel_rfl) rfl rfl ?_)
  repeat' (first | (refine go_Z ?_; intros) | (refine gs_Z ?_ ?_ <;> (intro hgd; try (simp only [Bool.not_true, Bool.not_false] at hgd))) | (refine gc_Z ?_ ?_ <;> intro _) | fail)
  (refine rt_Z (y := ()) (hrs := Tryz.results97) (hv := ?_) (hφ := ?_))
  · rfl
  · trivial
theorem copyCheck_used (b : Nat) (v : Value) : FSpec Tryz.prog 97 [.pointer (some ⟨b, 0, none⟩)] [pts b (.cells [.pointer (some ⟨b, 0, none⟩), v].toArray 127)] Unit (fun _ => True) (fun _ => .tuple #[]) (fun _ => [pts b (.cells [.pointer (some ⟨b, 0, none⟩), v].toArray 127)]) := by
  refine spec_intro [] _ Tryz.func97 rfl Tryz.ntmps97 (by rfl) (fun w0 R => ?_)
  repeat' (first | (refine go_Z ?_; intros) | (refine gs_Z ?_ ?_ <;> (intro hgd; try (simp only [Bool.not_true, Bool.not_false] at hgd))) | (refine gc_Z ?_ ?_ <;> intro _) | fail)
  (refine rt_Z (y := ()) (hrs := Tryz.results97) (hv := ?_) (hφ := ?_))
  · rfl
  · trivial

def bldM (b : Nat) (s : ByteArray) (x : Bool × { v : Value // v.oneCell' = true }) : List HProp := [pts b (.cells [.pointer (bif x.1 then some ⟨b, 0, none⟩ else none), x.2.1].toArray 127), row 5 1 x.2.1 (bytesV s)]
def bldP (b : Nat) (s : ByteArray) : HProp := exP (bldM b s)
theorem bld_new {b : Nat} {L : List HProp} {h : Frag} (s : SatL (pts b (.cells [.pointer none, .slice none 0 0].toArray 127) :: L) h) : SatL (bldP b ⟨#[]⟩ :: L) h :=
  ex_in (M := bldM b ⟨#[]⟩) (false, ⟨.slice none 0 0, rfl⟩) rfl
    (s.consMono fun _ k => satL_emp (A := row 5 1 (.slice none 0 0) []) ⟨fun _ hx => by simp at hx, .inl ⟨rfl, rfl⟩⟩ k)
theorem bld_in {b : Nat} {s : ByteArray} {v : Value} (hv : v.oneCell' = true) {L : List HProp} {h : Frag} (k : SatL (pts b (.cells [.pointer (some ⟨b, 0, none⟩), v].toArray 127) :: row 5 1 v (bytesV s) :: L) h) : SatL (bldP b s :: L) h :=
  ex_in (M := bldM b s) (true, ⟨v, hv⟩) rfl k

theorem writeString_spec (b : Nat) (s u : ByteArray) (hs : s.size + u.size ≤ 140737488355328) : FSpec Tryz.prog 79 [.pointer (some ⟨b, 0, none⟩), .string u] [bldP b s] Unit (fun _ => True) (fun _ => .tuple #[.int .i64 u.size, .nilIface]) (fun _ => [bldP b (s ++ u)]) := by
  have hl := bytesV_len s
  refine spec_intro [] _ Tryz.func79 rfl Tryz.ntmps79 (by rfl) (fun w0 R => ?_)
  (refine ok_ex selD ?_)
  rintro ⟨f, ⟨v, hv⟩⟩
  cases f with
  | false =>
    dsimp only [bldM, cond_false]
    repeat' (first | (refine go_Z ?_; intros) | (refine gs_Z ?_ ?_ <;> (intro hgd; try (simp only [Bool.not_true, Bool.not_false] at hgd))) | (refine gc_Z ?_ ?_ <;> intro _) | fail)
    refine cl_Z (copyCheck_fresh b v) ?_
    intro _ _
    repeat' (first | (refine go_Z ?_; intros) | (refine gs_Z ?_ ?_ <;> (intro hgd; try (simp only [Bool.not_true, Bool.not_false] at hgd))) | (refine gc_Z ?_ ?_ <;> intro _) | fail)
    rename_i v' hv'
    rw [bytesV_app]
    refine cont_map (fun _ h => bld_in hv' (Take.out2 takeD h)) ?_
    (refine rt_Z (y := ()) (hrs := Tryz.results79) (hv := ?_) (hφ := ?_))
    · rfl
    · trivial
  | true =>
    dsimp only [bldM, cond_true]
    repeat' (first | (refine go_Z ?_; intros) | (refine gs_Z ?_ ?_ <;> (intro hgd; try (simp only [Bool.not_true, Bool.not_false] at hgd))) | (refine gc_Z ?_ ?_ <;> intro _) | fail)
    refine cl_Z (copyCheck_used b v) ?_
    intro _ _
    repeat' (first | (refine go_Z ?_; intros) | (refine gs_Z ?_ ?_ <;> (intro hgd; try (simp only [Bool.not_true, Bool.not_false] at hgd))) | (refine gc_Z ?_ ?_ <;> intro _) | fail)
    rename_i v' hv'
    rw [bytesV_app]
    refine cont_map (fun _ h => bld_in hv' (Take.out2 takeD h)) ?_
    (refine rt_Z (y := ()) (hrs := Tryz.results79) (hv := ?_) (hφ := ?_))
    · rfl
    · trivial
theorem row_cases {e : Nat} {v : Value} {xs : List (List Value)} {L R : List HProp} (t : Take L [row e 1 v xs] R) (h : Frag) (s : SatL L h) : (v = .slice none 0 0 ∧ xs = []) ∨ ∃ g cap, v = .slice (some ⟨g, 0, none⟩) xs.length cap ∧ xs.length ≤ cap := by
  obtain ⟨_, _, _, _, _, ⟨g, hr⟩, _⟩ := t.out s
  rcases hr with hr | ⟨b, cap, rest, rfl, hl, _⟩
  · exact .inl hr
  · refine .inr ⟨b, cap, rfl, ?_⟩
    rw [List.length_append, g.flatten_length] at hl
    omega
theorem string_spec (b : Nat) (s : ByteArray) (hs : s.size ≤ 9223372036854775807) : FSpec Tryz.prog 80 [.pointer (some ⟨b, 0, none⟩)] [bldP b s] Unit (fun _ => True) (fun _ => .string s) (fun _ => []) := by
  have hl := bytesV_len s
  refine spec_intro [] _ Tryz.func80 rfl Tryz.ntmps80 (by rfl) (fun w0 R => ?_)
  (refine ok_ex selD ?_)
  rintro ⟨f, ⟨v, hv⟩⟩
  dsimp only [bldM]
  generalize (Value.pointer (bif f then some ⟨b, 0, none⟩ else none)) = p
  refine ok_learn (row_cases takeD) ?_
  rintro (⟨rfl, hn⟩ | ⟨g, cap, rfl, hcap⟩)
  · have hs0 : s = ⟨#[]⟩ := by
      have : s.size = 0 := by rw [← hl, hn]; rfl
      exact ByteArray.ext (Array.eq_empty_of_size_eq_zero this)
    subst hs0
    repeat' (first | (refine go_Z ?_; intros) | (refine gs_Z ?_ ?_ <;> (intro hgd; try (simp only [Bool.not_true, Bool.not_false] at hgd))) | (refine gc_Z ?_ ?_ <;> intro _) | fail)
    (apply ok_draw [4]; (focus (kernel_rfl)); (focus ((conv => lhs; whnf); first | done | rfl)); (focus (decide +kernel)); (focus (exact (fun _ h => h))))
    repeat' (first | (refine go_Z ?_; intros) | (refine gs_Z ?_ ?_ <;> (intro hgd; try (simp only [Bool.not_true, Bool.not_false] at hgd))) | (refine gc_Z ?_ ?_ <;> intro _) | fail)
    refine ops_run (s_sliceData_nil_nb rfl rfl (fun _ h => h) ?_)
    repeat' (first | (refine go_Z ?_; intros) | (refine gs_Z ?_ ?_ <;> (intro hgd; try (simp only [Bool.not_true, Bool.not_false] at hgd))) | (refine gc_Z ?_ ?_ <;> intro _) | fail)
    refine ops_run (s_unsafeString_none rfl rfl rfl rfl ?_)
    repeat' (first | (refine go_Z ?_; intros) | (refine gs_Z ?_ ?_ <;> (intro hgd; try (simp only [Bool.not_true, Bool.not_false] at hgd))) | (refine gc_Z ?_ ?_ <;> intro _) | fail)
    (refine rt_Z (y := ()) (hrs := Tryz.results80) (hv := ?_) (hφ := ?_))
    · rfl
    · trivial
  · cases cap with
    | zero =>
      have hs0 : s = ⟨#[]⟩ := by
        have : s.size = 0 := by omega
        exact ByteArray.ext (Array.eq_empty_of_size_eq_zero this)
      subst hs0
      repeat' (first | (refine go_Z ?_; intros) | (refine gs_Z ?_ ?_ <;> (intro hgd; try (simp only [Bool.not_true, Bool.not_false] at hgd))) | (refine gc_Z ?_ ?_ <;> intro _) | fail)
      (apply ok_draw [4]; (focus (kernel_rfl)); (focus ((conv => lhs; whnf); first | done | rfl)); (focus (decide +kernel)); (focus (exact (fun _ h => h))))
      repeat' (first | (refine go_Z ?_; intros) | (refine gs_Z ?_ ?_ <;> (intro hgd; try (simp only [Bool.not_true, Bool.not_false] at hgd))) | (refine gc_Z ?_ ?_ <;> intro _) | fail)
      refine ops_run (s_sliceData_zero_nb rfl selD rfl (fun _ h => h) ?_)
      intro b'
      repeat' (first | (refine go_Z ?_; intros) | (refine gs_Z ?_ ?_ <;> (intro hgd; try (simp only [Bool.not_true, Bool.not_false] at hgd))) | (refine gc_Z ?_ ?_ <;> intro _) | fail)
      refine ops_run (s_unsafeString_none rfl rfl rfl rfl ?_)
      repeat' (first | (refine go_Z ?_; intros) | (refine gs_Z ?_ ?_ <;> (intro hgd; try (simp only [Bool.not_true, Bool.not_false] at hgd))) | (refine gc_Z ?_ ?_ <;> intro _) | fail)
      (refine rt_Z (y := ()) (hrs := Tryz.results80) (hv := ?_) (hφ := ?_))
      · rfl
      · trivial
    | succ c =>
      repeat' (first | (refine go_Z ?_; intros) | (refine gs_Z ?_ ?_ <;> (intro hgd; try (simp only [Bool.not_true, Bool.not_false] at hgd))) | (refine gc_Z ?_ ?_ <;> intro _) | fail)
      (apply ok_draw [4]; (focus (kernel_rfl)); (focus ((conv => lhs; whnf); first | done | rfl)); (focus (decide +kernel)); (focus (exact (fun _ h => h))))
      repeat' (first | (refine go_Z ?_; intros) | (refine gs_Z ?_ ?_ <;> (intro hgd; try (simp only [Bool.not_true, Bool.not_false] at hgd))) | (refine gc_Z ?_ ?_ <;> intro _) | fail)
      refine ops_run (s_sliceData_row_nb rfl (by simp) rfl (fun _ h => h) ?_)
      by_cases h0 : s.size = 0
      · have hs0 : s = ⟨#[]⟩ := ByteArray.ext (Array.eq_empty_of_size_eq_zero h0)
        subst hs0
        repeat' (first | (refine go_Z ?_; intros) | (refine gs_Z ?_ ?_ <;> (intro hgd; try (simp only [Bool.not_true, Bool.not_false] at hgd))) | (refine gc_Z ?_ ?_ <;> intro _) | fail)
        refine ops_run (s_unsafeString_none rfl rfl rfl rfl ?_)
        repeat' (first | (refine go_Z ?_; intros) | (refine gs_Z ?_ ?_ <;> (intro hgd; try (simp only [Bool.not_true, Bool.not_false] at hgd))) | (refine gc_Z ?_ ?_ <;> intro _) | fail)
        (refine rt_Z (y := ()) (hrs := Tryz.results80) (hv := ?_) (hφ := ?_))
        · rfl
        · trivial
      · rw [hl]
        repeat' (first | (refine go_Z ?_; intros) | (refine gs_Z ?_ ?_ <;> (intro hgd; try (simp only [Bool.not_true, Bool.not_false] at hgd))) | (refine gc_Z ?_ ?_ <;> intro _) | fail)
        refine ops_run (s_unsafeString_row (s := s) rfl rfl rfl (by kernel_rfl) h0 hs selD rfl rfl ?_)
        repeat' (first | (refine go_Z ?_; intros) | (refine gs_Z ?_ ?_ <;> (intro hgd; try (simp only [Bool.not_true, Bool.not_false] at hgd))) | (refine gc_Z ?_ ?_ <;> intro _) | fail)
        (refine rt_Z (y := ()) (hrs := Tryz.results80) (hv := ?_) (hφ := ?_))
        · rfl
        · trivial
end Go.Proofs.YtadgdikijdmceaaGreat
