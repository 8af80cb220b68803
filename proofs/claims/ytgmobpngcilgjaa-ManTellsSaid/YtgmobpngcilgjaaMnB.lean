/- The walks of slices.Grow, slices.Concat, man.Put. -/
import Derived.Test.YtgmobpngcilgjaaMnA
-- @DEFS Z
set_option linter.unusedSimpArgs false
set_option linter.unusedVariables false
set_option maxRecDepth 4000
namespace Go.Proofs.Ytgmobpngcilgjaa
open Go Go.Fx Go.Proofs Go.Pl

theorem Grow_spec (m : Nat) (h1 : 1 ≤ m) (h2 : m ≤ 1099511627776) : FSpec Try.prog 137 [.slice none 0 0, .int .i64 m] [] (Nat × Nat) (fun y => m ≤ y.2) (fun y => .slice (some ⟨y.1, 0, none⟩) 0 y.2) (fun y => [row 60 1 (.slice (some ⟨y.1, 0, none⟩) 0 y.2) []]) := by
  have t1 : decide ((m : Int) < 0) = false := by simp
  have t2 : decide (0 < (m : Int) - (((0 : Nat) : Int) - ((0 : Nat) : Int))) = true := by simp; omega
  refine spec_intro [] _ Try.func137 rfl Try.ntmps137 (by rfl) (fun w0 R => ?_)
  repeat' (first | (refine go_Z ?_; intros) | (refine gs_Z ?_ ?_ <;> (intro hgd; try (simp only [Bool.not_true, Bool.not_false] at hgd))) | (refine gc_Z ?_ ?_ <;> intro _) | fail)
  apply ops_run
  apply s_append_make
  · exact rfl
  · exact rfl
  · exact rfl
  · show _ = ((m : Nat) : Int)
    simp
  · omega
  · exact rfl
  · omega
  · omega
  · exact rfl
  · exact rfl
  intro b cap hcap
  have z0 : 0 ≤ cap := by omega
  repeat' (first | (refine go_Z ?_; intros) | (refine gs_Z ?_ ?_ <;> (intro hgd; try (simp only [Bool.not_true, Bool.not_false] at hgd))) | (refine gc_Z ?_ ?_ <;> intro _) | fail)
  (refine rt_Z (y := (b, cap)) (hrs := Try.results137) (hv := ?_) (hφ := ?_))
  · rfl
  · assumption

theorem Concat_spec (u v1 v2 : Value) (O A B : HProp) (xs ys : List Int) (hO : Vw O 1 u [[v1], [v2]]) (hA : Vw A 1 v1 (xs.map uV)) (hB : Vw B 1 v2 (ys.map uV)) (h1 : 1 ≤ xs.length) (h2 : xs.length + ys.length ≤ 1099511627776) :
    FSpec Try.prog 95 [u] [O, A, B] { v : Value // v.oneCell' = true } (fun _ => True) (fun v => v.1) (fun v => [row 60 1 v.1 ((xs ++ ys).map uV), O, A, B]) := by
  refine spec_intro [] _ Try.func95 rfl Try.ntmps95 (by rfl) (fun w0 R => ?_)
  refine ok_learn (VwIn.slice (VwIn.here hO)) ?_
  rintro ⟨pu, cu, rfl⟩
  refine ok_learn (VwIn.base (VwIn.here hO) (by simp)) ?_
  rintro ⟨bu, ou, rfl⟩
  refine ok_learn (VwIn.slice (VwIn.there (VwIn.here hA))) ?_
  rintro ⟨p1, c1, rfl⟩
  refine ok_learn (VwIn.slice (VwIn.there (VwIn.there (VwIn.here hB)))) ?_
  rintro ⟨p2, c2, rfl⟩
  have l1 : (xs.map uV).length = xs.length := by simp
  have l2 : (ys.map uV).length = ys.length := by simp
  have hx0 : ([[Value.slice p1 (xs.map uV).length c1], [Value.slice p2 (ys.map uV).length c2]] : List (List Value))[0]? = some [Value.slice p1 (xs.map uV).length c1] := rfl
  have hx1 : ([[Value.slice p1 (xs.map uV).length c1], [Value.slice p2 (ys.map uV).length c2]] : List (List Value))[1]? = some [Value.slice p2 (ys.map uV).length c2] := rfl
  repeat' (first | (refine go_Z ?_; intros) | (refine gs_Z ?_ ?_ <;> (intro hgd; try (simp only [Bool.not_true, Bool.not_false] at hgd))) | (refine gc_Z ?_ ?_ <;> intro _) | fail)
  refine ok_loop' (γ := Nat × Nat) (fun g ρ L => (g = (0, 0) ∨ g = (1, xs.length) ∨ g = (2, xs.length + ys.length)) ∧ Knows ρ [(0, .slice (some ⟨bu, ou, none⟩) 2 cu), (3, .int .i64 g.2), (9, .slice (some ⟨bu, ou, none⟩) 2 cu), (10, .int .i64 2), (11, .int .i64 g.1)] ∧ L = [O, A, B] ++ R) (fun g => 2 - g.1) (0, 0) ⟨.inl rfl, ⟨rfl, rfl, rfl, rfl, rfl, trivial⟩, rfl⟩ ?_
  rintro ⟨i, n⟩ ρ L ⟨hi, hk, rfl⟩
  dsimp only at hk ⊢
  refine ok_regs hk ?_
  rcases hi with e | e | e
  · cases e
    have t0 : decide (((0 : Nat) : Int) < 2) = true := by decide
    have t1 : decide (((0 : Nat) : Int) + ((xs.map uV).length : Int) < 0) = false := by simp <;> omega
    repeat' (first | (refine go_Z ?_; intros) | (refine gs_Z ?_ ?_ <;> (intro hgd; try (simp only [Bool.not_true, Bool.not_false] at hgd))) | (refine gc_Z ?_ ?_ <;> intro _) | fail)
    refine cont_back (1, xs.length) ⟨.inr (.inl rfl), ⟨rfl, by show Value.int IntKind.i64 (((0 : Nat) : Int) + ((xs.map uV).length : Int)) = _; rw [l1]; simp, rfl, rfl, rfl, trivial⟩, rfl⟩ (by simp)
  · cases e
    have t0 : decide (((1 : Nat) : Int) < 2) = true := by decide
    have t1 : decide ((xs.length : Int) + ((ys.map uV).length : Int) < 0) = false := by simp; omega
    repeat' (first | (refine go_Z ?_; intros) | (refine gs_Z ?_ ?_ <;> (intro hgd; try (simp only [Bool.not_true, Bool.not_false] at hgd))) | (refine gc_Z ?_ ?_ <;> intro _) | fail)
    refine cont_back (2, xs.length + ys.length) ⟨.inr (.inr rfl), ⟨rfl, by show Value.int IntKind.i64 ((xs.length : Int) + ((ys.map uV).length : Int)) = _; rw [l2]; simp, rfl, rfl, rfl, trivial⟩, rfl⟩ (by simp)
  · cases e
    have t0 : decide (((2 : Nat) : Int) < 2) = false := by decide
    repeat' (first | (refine go_Z ?_; intros) | (refine gs_Z ?_ ?_ <;> (intro hgd; try (simp only [Bool.not_true, Bool.not_false] at hgd))) | (refine gc_Z ?_ ?_ <;> intro _) | fail)
    refine cl_Z (Grow_spec (xs.length + ys.length) (by omega) (by omega)) ?_
    rintro ⟨g, cap⟩ _
    repeat' (first | (refine go_Z ?_; intros) | (refine gs_Z ?_ ?_ <;> (intro hgd; try (simp only [Bool.not_true, Bool.not_false] at hgd))) | (refine gc_Z ?_ ?_ <;> intro _) | fail)
    refine ok_loop' (γ := Nat × { v : Value // v.oneCell' = true } × List (List Value)) (fun g ρ L => (g.1 = 0 ∧ g.2.2 = [] ∨ g.1 = 1 ∧ g.2.2 = xs.map uV ∨ g.1 = 2 ∧ g.2.2 = (xs ++ ys).map uV) ∧ Knows ρ [(6, g.2.1.1), (25, .slice (some ⟨bu, ou, none⟩) 2 cu), (26, .int .i64 2), (27, .int .i64 g.1)] ∧ L = [row 60 1 g.2.1.1 g.2.2, O, A, B] ++ R) (fun g => 2 - g.1) (0, ⟨.slice (some ⟨g, 0, none⟩) 0 cap, rfl⟩, []) ⟨.inl ⟨rfl, rfl⟩, ⟨rfl, rfl, rfl, rfl, trivial⟩, rfl⟩ ?_
    rintro ⟨i, ⟨v, hv⟩, zs⟩ ρ L ⟨hi, hk, rfl⟩
    dsimp only at hi hk ⊢
    refine ok_regs hk ?_
    rcases hi with ⟨rfl, rfl⟩ | ⟨rfl, rfl⟩ | ⟨rfl, rfl⟩
    · have t0 : decide (((0 : Nat) : Int) < 2) = true := by decide
      repeat' (first | (refine go_Z ?_; intros) | (refine gs_Z ?_ ?_ <;> (intro hgd; try (simp only [Bool.not_true, Bool.not_false] at hgd))) | (refine gc_Z ?_ ?_ <;> intro _) | fail)
      rename_i v' hv'
      refine cont_map (L' := [row 60 1 v' (xs.map uV), O, A, B] ++ R) entD ?_
      refine cont_back (1, ⟨v', hv'⟩, xs.map uV) ⟨.inr (.inl ⟨rfl, rfl⟩), ⟨rfl, rfl, rfl, rfl, trivial⟩, rfl⟩ (by simp)
    · have t0 : decide (((1 : Nat) : Int) < 2) = true := by decide
      repeat' (first | (refine go_Z ?_; intros) | (refine gs_Z ?_ ?_ <;> (intro hgd; try (simp only [Bool.not_true, Bool.not_false] at hgd))) | (refine gc_Z ?_ ?_ <;> intro _) | fail)
      rename_i v' hv'
      rw [← List.map_append]
      refine cont_map (L' := [row 60 1 v' ((xs ++ ys).map uV), O, A, B] ++ R) entD ?_
      refine cont_back (2, ⟨v', hv'⟩, (xs ++ ys).map uV) ⟨.inr (.inr ⟨rfl, rfl⟩), ⟨rfl, rfl, rfl, rfl, trivial⟩, rfl⟩ (by simp)
    · have t0 : decide (((2 : Nat) : Int) < 2) = false := by decide
      repeat' (first | (refine go_Z ?_; intros) | (refine gs_Z ?_ ?_ <;> (intro hgd; try (simp only [Bool.not_true, Bool.not_false] at hgd))) | (refine gc_Z ?_ ?_ <;> intro _) | fail)
      (refine rt_Z (y := ⟨v, hv⟩) (hrs := Try.results95) (hv := ?_) (hφ := ?_))
      · rfl
      · trivial

/-! ### man.Put -/
/-- A number's eight bytes. -/
def put8 (n : Int) : BA := ⟨(putL n.toNat 8).toArray⟩
def put8s : List Int → BA
  | [] => ⟨#[]⟩
  | n :: l => put8 n ++ put8s l
theorem put8_size (n : Int) : (put8 n).size = 8 := by show (putL n.toNat 8).toArray.size = 8; simp [putL]
theorem put8s_size : ∀ l : List Int, (put8s l).size = 8 * l.length
  | [] => rfl
  | n :: l => by
    show (put8 n ++ put8s l).size = _
    rw [ByteArray.size_append, put8_size, put8s_size l, List.length_cons]; omega
theorem put8s_append : ∀ (l m : List Int), put8s (l ++ m) = put8s l ++ put8s m
  | [], m => (ByteArray.empty_append).symm
  | n :: l, m => by
    show put8 n ++ put8s (l ++ m) = put8 n ++ put8s l ++ put8s m
    rw [put8s_append l m, ByteArray.append_assoc]
theorem put8s_snoc (l : List Int) (n : Int) : put8s (l ++ [n]) = put8s l ++ put8 n := by
  rw [put8s_append]
  show put8s l ++ (put8 n ++ ⟨#[]⟩) = _
  congr 1
def mNums (m : Mn) : List Int := m.wal :: m.next :: (m.runs.length : Int) :: m.runs
def mBody (m : Mn) : BA := put8s (mNums m)
def mBytes (m : Mn) : BA := frameOf (mBody m)

theorem wput8_spec (n : Int) (h0 : 0 ≤ n) (h1 : n ≤ 18446744073709551615) : FSpec Try.prog 96 [.int .u64 n, .int .i64 8] [] Unit (fun _ => True) (fun _ => .tuple #[.string (put8 n), .int .i64 0]) (fun _ => []) := by
  obtain ⟨k, rfl⟩ : ∃ k : Nat, n = k := ⟨n.toNat, by omega⟩
  exact put_spec k 8 (by omega) (by omega) (by omega) (by unfold fitsB; simp)

theorem mPut_bad (m : Mn) (v : Value) (A : HProp) (hA : Vw A 1 v (m.runs.map uV)) (hcap : capOk v) (hz : m.runs.length ≤ 1099511627776) (hc : m.chk = false) :
    FSpec Try.prog 44 [.agg (manV m v).toArray] [A] Unit (fun _ => True) (fun _ => .tuple #[.string ⟨#[]⟩, .int .i64 2]) (fun _ => [A]) := by
  have hs := Check_spec m v A hA hcap hz
  rw [hc] at hs
  dsimp only [cond_true, cond_false] at hs
  refine spec_intro [] _ Try.func44 rfl Try.ntmps44 (by rfl) (fun w0 R => ?_)
  repeat' (first | (refine go_Z ?_; intros) | (refine gs_Z ?_ ?_ <;> (intro hgd; try (simp only [Bool.not_true, Bool.not_false] at hgd))) | (refine gc_Z ?_ ?_ <;> intro _) | fail)
  refine cl_Z (hs) ?_
  intro _ _
  repeat' (first | (refine go_Z ?_; intros) | (refine gs_Z ?_ ?_ <;> (intro hgd; try (simp only [Bool.not_true, Bool.not_false] at hgd))) | (refine gc_Z ?_ ?_ <;> intro _) | fail)
  (refine rt_Z (y := ()) (hrs := Try.results44) (hv := ?_) (hφ := ?_))
  · rfl
  · trivial

theorem mPut_spec (m : Mn) (v : Value) (A : HProp) (hA : Vw A 1 v (m.runs.map uV)) (hcap : capOk v) (hz : m.runs.length ≤ 1099511627776) (hc : m.chk = true) (hw : m.wf) :
    FSpec Try.prog 44 [.agg (manV m v).toArray] [A] Unit (fun _ => True) (fun _ => .tuple #[.string (mBytes m), .int .i64 0]) (fun _ => [A]) := by
  have hs := Check_spec m v A hA hcap hz
  rw [hc] at hs
  dsimp only [cond_true, cond_false] at hs
  have hhd := Mn.chk_head hc
  simp only [Mn.head, Bool.or_eq_false_iff, decide_eq_false_iff_not] at hhd
  have hlen : (m.runs.map uV).length = m.runs.length := by simp
  have hwr : IntKind.u64.wrap ((m.runs.map uV).length : Int) = ((m.runs.map uV).length : Int) := wrap_u64 _ (by omega)
  refine spec_intro [] _ Try.func44 rfl Try.ntmps44 (by rfl) (fun w0 R => ?_)
  refine ok_learn (VwIn.slice (VwIn.here hA)) ?_
  rintro ⟨pu, cu, rfl⟩
  repeat' (first | (refine go_Z ?_; intros) | (refine gs_Z ?_ ?_ <;> (intro hgd; try (simp only [Bool.not_true, Bool.not_false] at hgd))) | (refine gc_Z ?_ ?_ <;> intro _) | fail)
  refine cl_Z (hs) ?_
  intro _ _
  repeat' (first | (refine go_Z ?_; intros) | (refine gs_Z ?_ ?_ <;> (intro hgd; try (simp only [Bool.not_true, Bool.not_false] at hgd))) | (refine gc_Z ?_ ?_ <;> intro _) | fail)
  refine ops_learn (row_cases takeD) ?_
  rintro (⟨rfl, hn⟩ | ⟨g, c, rfl, hgc⟩)
  · cases hn
  rename_i bm _ _ bb _
  repeat' (first | (refine go_Z ?_; intros) | (refine gs_Z ?_ ?_ <;> (intro hgd; try (simp only [Bool.not_true, Bool.not_false] at hgd))) | (refine gc_Z ?_ ?_ <;> intro _) | fail)
  rename_i v' hv'
  refine cl_Z (Concat_spec v' (.slice (some ⟨g, 0, none⟩) 3 c) (.slice pu (m.runs.map uV).length cu) (row 61 1 v' [[.slice (some ⟨g, 0, none⟩) 3 c], [.slice pu (m.runs.map uV).length cu]]) (row 60 1 (.slice (some ⟨g, 0, none⟩) 3 c) ([m.wal, m.next, ((m.runs.map uV).length : Int)].map uV)) A [m.wal, m.next, ((m.runs.map uV).length : Int)] m.runs Vw.row Vw.row hA (by simp) (by simp; omega)) ?_
  rintro ⟨vc, hvc⟩ _
  have hnum : ([m.wal, m.next, ((m.runs.map uV).length : Int)] ++ m.runs) = mNums m := by rw [hlen]; rfl
  rw [hnum]
  have hns : ∀ n ∈ mNums m, 0 ≤ n ∧ n ≤ 18446744073709551615 := by
    intro n hn
    simp only [mNums, List.mem_cons] at hn
    rcases hn with rfl | rfl | rfl | hn
    · exact hw.1
    · exact hw.2.1
    · omega
    · exact hw.2.2 n hn
  have hnl : (mNums m).length = 3 + m.runs.length := by simp [mNums]; omega
  have hbl : (mBody m).size = 8 * (mNums m).length := put8s_size _
  have hby : mBytes m = frameOf (put8s (mNums m)) := rfl
  have hbd : mBody m = put8s (mNums m) := rfl
  rw [hby]
  rw [hbd] at hbl
  generalize mNums m = ns at hns hnl hbl
  refine opsL_map (fun _ h => bld_new (b := bb) (Take.out1 takeD h)) ?_
  repeat' (first | (refine go_Z ?_; intros) | (refine gs_Z ?_ ?_ <;> (intro hgd; try (simp only [Bool.not_true, Bool.not_false] at hgd))) | (refine gc_Z ?_ ?_ <;> intro _) | fail)
  refine ok_map (L' := [bldP bb ⟨#[]⟩, row 60 1 vc (ns.map uV), A] ++ R) entD ?_
  refine ok_learn (row_cases takeD) ?_
  rintro (⟨rfl, hn⟩ | ⟨gc, cc, rfl, hcc⟩)
  · have := congrArg List.length hn
    rw [List.length_map, List.length_nil] at this; omega
  have hln : (ns.map uV).length = ns.length := by simp
  refine ok_loop' (γ := Nat) (fun i ρ L => i ≤ ns.length ∧ Knows ρ [(5, .pointer (some ⟨bb, 0, none⟩)), (27, .slice (some ⟨gc, 0, none⟩) (ns.map uV).length cc), (28, .int .i64 (ns.map uV).length), (29, .int .i64 i)] ∧ L = [bldP bb (put8s (ns.take i)), row 60 1 (.slice (some ⟨gc, 0, none⟩) (ns.map uV).length cc) (ns.map uV), A] ++ R) (fun i => ns.length - i) 0 ⟨by simp, ⟨rfl, rfl, rfl, rfl, trivial⟩, rfl⟩ ?_
  rintro i ρ L ⟨hi, hk, rfl⟩
  refine ok_regs hk ?_
  cases t1 : decide ((i : Int) < ((ns.map uV).length : Int)) with
  | true =>
    have h : i < ns.length := by simp at t1; omega
    have hn1 : i < (ns.map uV).length := by omega
    have hx : (ns.map uV)[i]? = some (uV ns[i]) := by rw [List.getElem?_map, List.getElem?_eq_getElem h]; rfl
    have htk : ns.take (i + 1) = ns.take i ++ [ns[i]] := by rw [List.take_add_one, List.getElem?_eq_getElem h]; rfl
    have hmem := hns _ (List.getElem_mem h)
    generalize ns[i] = x at hx htk hmem
    have hsz : (put8s (ns.take i)).size ≤ 8 * ns.length := by rw [put8s_size, List.length_take]; omega
    repeat' (first | (refine go_Z ?_; intros) | (refine gs_Z ?_ ?_ <;> (intro hgd; try (simp only [Bool.not_true, Bool.not_false] at hgd))) | (refine gc_Z ?_ ?_ <;> intro _) | fail)
    refine cl_Z (wput8_spec x hmem.1 hmem.2) ?_
    intro _ _
    repeat' (first | (refine go_Z ?_; intros) | (refine gs_Z ?_ ?_ <;> (intro hgd; try (simp only [Bool.not_true, Bool.not_false] at hgd))) | (refine gc_Z ?_ ?_ <;> intro _) | fail)
    refine cl_Z (writeString_spec bb (put8s (ns.take i)) (put8 x) (by rw [put8_size]; omega)) ?_
    intro _ _
    repeat' (first | (refine go_Z ?_; intros) | (refine gs_Z ?_ ?_ <;> (intro hgd; try (simp only [Bool.not_true, Bool.not_false] at hgd))) | (refine gc_Z ?_ ?_ <;> intro _) | fail)
    rw [← put8s_snoc, ← htk]
    refine cont_map (L' := [bldP bb (put8s (ns.take (i + 1))), row 60 1 (.slice (some ⟨gc, 0, none⟩) (ns.map uV).length cc) (ns.map uV), A] ++ R) entD ?_
    refine cont_back (i + 1) ⟨h, ⟨rfl, rfl, rfl, rfl, trivial⟩, rfl⟩ (by omega)
  | false =>
    have hie : i = ns.length := by simp at t1; omega
    subst hie
    rw [List.take_length]
    repeat' (first | (refine go_Z ?_; intros) | (refine gs_Z ?_ ?_ <;> (intro hgd; try (simp only [Bool.not_true, Bool.not_false] at hgd))) | (refine gc_Z ?_ ?_ <;> intro _) | fail)
    refine cl_Z (string_spec bb (put8s ns) (by omega)) ?_
    intro _ _
    repeat' (first | (refine go_Z ?_; intros) | (refine gs_Z ?_ ?_ <;> (intro hgd; try (simp only [Bool.not_true, Bool.not_false] at hgd))) | (refine gc_Z ?_ ?_ <;> intro _) | fail)
    refine cl_Z (fPut_spec (put8s ns) (by omega)) ?_
    intro _ _
    repeat' (first | (refine go_Z ?_; intros) | (refine gs_Z ?_ ?_ <;> (intro hgd; try (simp only [Bool.not_true, Bool.not_false] at hgd))) | (refine gc_Z ?_ ?_ <;> intro _) | fail)
    (refine rt_Z (y := ()) (hrs := Try.results44) (hv := ?_) (hφ := ?_))
    · rfl
    · trivial
end Go.Proofs.Ytgmobpngcilgjaa
