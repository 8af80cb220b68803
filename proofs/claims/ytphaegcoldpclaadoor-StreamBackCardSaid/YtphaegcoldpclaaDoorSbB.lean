import Derived.Test.YtphaegcoldpclaaDoorSbA
import Derived.Test.YtphaegcoldpclaaDoorSlvd
set_option linter.unusedSimpArgs false
set_option linter.unusedVariables false
set_option maxRecDepth 100000
namespace Go.Proofs.YtphaegcoldpclaaDoor
open Go Go.Fx Go.Proofs Go.Pl

theorem decode_spec (s : BA) (A : HProp) (hA : UT A) : FSpec Tryd.prog 132 [.string s] [A] Unit (fun _ => True) (fun _ => .tuple #[.int .i32 (Lib.decodeGo s).1, .int .i64 (Lib.decodeGo s).2]) (fun _ => [A]) := by
  intro w0 w R hsat
  have hT := hA w (Sats.head hsat)
  refine (Any.utf8_DecodeRuneInString Tryd.laysDecode s w hT).mono ?_
  rintro e w' ⟨rfl, hB⟩
  exact ⟨(), trivial, rfl, sats_below hsat hB⟩
theorem opens_spec (s : BA) (n : Int) (A : HProp) (hA : UT A) (hv : validS s = true) (hs : s.size ≤ 1000000) : FSpec Tryd.prog 120 [.string s, .int .i64 n] [A] Unit (fun _ => True) (fun _ => .bool true) (fun _ => [A]) := by
  have hz : s.data.toList.length = s.size := tl_len s
  refine spec_intro [] _ Tryd.func120 rfl Tryd.ntmps120 (by rfl) (fun w0 R => ?_)
  repeat' (first | (refine go_Y ?_; intros) | (refine gs_Y ?_ ?_ <;> (intro hgd; try (simp only [Bool.not_true, Bool.not_false] at hgd))) | (refine gc_Y ?_ ?_ <;> intro _) | fail)
  refine ok_loop' (γ := Nat) (fun i ρ L => i ≤ s.size ∧ Lib.validD ((tl s).drop i) = true ∧ Knows ρ [(0, .string s), (1, .int .i64 n), (5, .int .i64 (i : Int))] ∧ L = [A] ++ R) (fun i => s.size - i) 0 ⟨by omega, hv, ⟨rfl, rfl, rfl, trivial⟩, rfl⟩ ?_
  rintro i ρ L ⟨hi, hval, hk, rfl⟩
  refine ok_regs hk ?_
  cases t1 : decide ((i : Int) < (s.size : Int)) with
  | false =>
    repeat' (first | (refine go_Y ?_; intros) | (refine gs_Y ?_ ?_ <;> (intro hgd; try (simp only [Bool.not_true, Bool.not_false] at hgd))) | (refine gc_Y ?_ ?_ <;> intro _) | fail)
    (refine rt_Y (y := ()) (hrs := Tryd.results120) (hv := ?_) (hφ := ?_))
    · rfl
    · trivial
  | true =>
    have h0 : i < s.size := by have := of_decide_eq_true t1; omega
    obtain ⟨c, z, hcz, hne, hz1, hz2, hnx⟩ := valid_at h0 hval
    have hd := decode_spec (s.extract i s.size) A hA
    rw [hcz] at hd
    have hr : (0 : Int) ≤ (i : Int) ∧ (i : Int) ≤ (s.size : Int) := ⟨by omega, by omega⟩
    repeat' (first | (refine go_Y ?_; intros) | (refine gs_Y ?_ ?_ <;> (intro hgd; try (simp only [Bool.not_true, Bool.not_false] at hgd))) | (refine gc_Y ?_ ?_ <;> intro _) | fail)
    refine cl_Y (hd) ?_
    intro _ _
    cases u1 : decide ((c : Int) = 65533) with
    | false =>
      repeat' (first | (refine go_Y ?_; intros) | (refine gs_Y ?_ ?_ <;> (intro hgd; try (simp only [Bool.not_true, Bool.not_false] at hgd))) | (refine gc_Y ?_ ?_ <;> intro _) | fail)
      refine cont_back (i + z) ⟨hz2, hnx, ⟨rfl, rfl, rfl, trivial⟩, rfl⟩ (by omega)
    | true =>
      have u2 : decide ((z : Int) = 1) = false := by
        rw [decide_eq_false_iff_not]
        intro e
        exact hne ⟨by have := of_decide_eq_true u1; omega, by omega⟩
      repeat' (first | (refine go_Y ?_; intros) | (refine gs_Y ?_ ?_ <;> (intro hgd; try (simp only [Bool.not_true, Bool.not_false] at hgd))) | (refine gc_Y ?_ ?_ <;> intro _) | fail)
      refine cont_back (i + z) ⟨hz2, hnx, ⟨rfl, rfl, rfl, trivial⟩, rfl⟩ (by omega)
theorem oneB_get (k : Int) : (oneB k).data.toList[0]? = some (b8 k) := rfl
theorem conv_one {k : Int} (h0 : 0 ≤ k) (h1 : k ≤ 255) : IntKind.i64.wrap ((b8 k).toNat : Int) = k := by
  rw [b8_ok h0 h1]; exact wrap_i64 (by omega) (by omega)
set_option maxHeartbeats 4000000 in
theorem text_spec (b : Nat) (s t : BA) (i : Nat) (vd : Bool) (A : HProp) (hA : UT A) (h : At s i (oneB t.size ++ t)) (hs : s.size ≤ 1000000) (ht : t.size ≤ 100) (hv : vd = true → validS t = true) :
    FSpec Tryd.prog 99 [.pointer (some ⟨b, 0, none⟩), .bool vd] [rdP b s i, A] Unit (fun _ => True) (fun _ => .string t) (fun _ => [rdP b s (i + 1 + t.size), A]) := by
  have h1 := h.left
  have h2 := h.right
  rw [oneB_size] at h2
  have hle := h2.le
  have hx2 := h2.ext
  have ht1 := take_spec b s i 1 (by omega) hs
  rw [oneB_at h1] at ht1
  have ht2 := take_spec b s (i + 1) t.size (by omega) hs
  rw [hx2] at ht2
  have hg := oneB_get (t.size : Int)
  have hw := conv_one (k := (t.size : Int)) (by omega) (by omega)
  have hr : (0 : Int) ≤ ((i + 1 : Nat) : Int) ∧ ((i + 1 : Nat) : Int) ≤ (s.size : Int) := ⟨by omega, by omega⟩
  have hc : decide ((100 : Int) < (t.size : Int)) = false := by rw [decide_eq_false_iff_not]; omega
  cases vd with
  | false =>
    refine spec_intro [] _ Tryd.func99 rfl Tryd.ntmps99 (by rfl) (fun w0 R => ?_)
    repeat' (first | (refine go_Y ?_; intros) | (refine gs_Y ?_ ?_ <;> (intro hgd; try (simp only [Bool.not_true, Bool.not_false] at hgd))) | (refine gc_Y ?_ ?_ <;> intro _) | fail)
    refine cl_Y (ht1) ?_
    intro _ _
    repeat' (first | (refine go_Y ?_; intros) | (refine gs_Y ?_ ?_ <;> (intro hgd; try (simp only [Bool.not_true, Bool.not_false] at hgd))) | (refine gc_Y ?_ ?_ <;> intro _) | fail)
    refine cl_Y (ht2) ?_
    intro _ _
    repeat' (first | (refine go_Y ?_; intros) | (refine gs_Y ?_ ?_ <;> (intro hgd; try (simp only [Bool.not_true, Bool.not_false] at hgd))) | (refine gc_Y ?_ ?_ <;> intro _) | fail)
    (refine rt_Y (y := ()) (hrs := Tryd.results99) (hv := ?_) (hφ := ?_))
    · rfl
    · trivial
  | true =>
    have ho := opens_spec t (t.size : Int) A hA (hv rfl) (by omega)
    have hz : (s.extract (i + 1) s.size).size = s.size - (i + 1) := by rw [ByteArray.size_extract]; omega
    have hx3 : (s.extract (i + 1) s.size).extract 0 t.size = t := by rw [ext_ext _ _ _ (by omega)]; exact hx2
    have hx4 : (s.extract ((i + 1 : Nat) : Int).toNat s.size).extract 0 (if (((s.extract ((i + 1 : Nat) : Int).toNat s.size).size : Nat) : Int) < (t.size : Int) then (((s.extract ((i + 1 : Nat) : Int).toNat s.size).size : Nat) : Int) else (t.size : Int)).toNat = t := by
      rw [Int.toNat_natCast, hz, if_neg (by omega), Int.toNat_natCast]; exact hx3
    refine spec_intro [] _ Tryd.func99 rfl Tryd.ntmps99 (by rfl) (fun w0 R => ?_)
    repeat' (first | (refine go_Y ?_; intros) | (refine gs_Y ?_ ?_ <;> (intro hgd; try (simp only [Bool.not_true, Bool.not_false] at hgd))) | (refine gc_Y ?_ ?_ <;> intro _) | fail)
    refine cl_Y (ht1) ?_
    intro _ _
    repeat' (first | (refine go_Y ?_; intros) | (refine gs_Y ?_ ?_ <;> (intro hgd; try (simp only [Bool.not_true, Bool.not_false] at hgd))) | (refine gc_Y ?_ ?_ <;> intro _) | fail)
    rw [hx4]
    refine cl_Y (ho) ?_
    intro _ _
    repeat' (first | (refine go_Y ?_; intros) | (refine gs_Y ?_ ?_ <;> (intro hgd; try (simp only [Bool.not_true, Bool.not_false] at hgd))) | (refine gc_Y ?_ ?_ <;> intro _) | fail)
    refine cl_Y (ht2) ?_
    intro _ _
    repeat' (first | (refine go_Y ?_; intros) | (refine gs_Y ?_ ?_ <;> (intro hgd; try (simp only [Bool.not_true, Bool.not_false] at hgd))) | (refine gc_Y ?_ ?_ <;> intro _) | fail)
    (refine rt_Y (y := ()) (hrs := Tryd.results99) (hv := ?_) (hφ := ?_))
    · rfl
    · trivial
theorem checkV_cases {v : Vl} (h : checkV v = true) (hw : v.wf) : v = ⟨0, 0, 0, ⟨#[]⟩⟩ ∨ (∃ i : Int, (i = 0 ∨ i = 1) ∧ v = ⟨1, i, 0, ⟨#[]⟩⟩) ∨ (∃ i : Int, -9223372036854775808 ≤ i ∧ i ≤ 9223372036854775807 ∧ v = ⟨2, i, 0, ⟨#[]⟩⟩) ∨
    (∃ r : Int, 0 ≤ r ∧ r ≤ 18446744073709551615 ∧ v = ⟨3, 0, r, ⟨#[]⟩⟩) ∨ (∃ t : BA, t.size ≤ 100 ∧ v = ⟨4, 0, 0, t⟩) ∨ (∃ t : BA, t.size ≤ 100 ∧ validS t = true ∧ v = ⟨5, 0, 0, t⟩) := by
  unfold checkV at h
  cases hq : wantV v with
  | none => rw [hq] at h; cases h
  | some w =>
    rw [hq] at h
    simp only [Bool.and_eq_true, decide_eq_true_eq] at h
    obtain ⟨he, hz⟩ := h
    unfold wantV at hq
    split at hq
    · rw [← Option.some.inj hq] at he; exact .inl he
    split at hq
    · split at hq
      · cases hq
      · rename_i hk hi
        rw [← Option.some.inj hq] at he
        refine .inr (.inl ⟨v.int, ?_, he⟩)
        have h0 := hw.i0
        have h1 := hw.i1
        have e4 : (2 : Int) ^ IntKind.u64.bits = 18446744073709551616 := rfl
        unfold IntKind.wrap at hi
        simp only [e4] at hi
        rw [if_neg (by simp [IntKind.signed])] at hi
        omega
    split at hq
    · rw [← Option.some.inj hq] at he; exact .inr (.inr (.inl ⟨v.int, hw.i0, hw.i1, he⟩))
    split at hq
    · rw [← Option.some.inj hq] at he
      have hr := congrArg Vl.real he
      dsimp only at hr
      refine .inr (.inr (.inr (.inl ⟨v.real, hw.r0, hw.r1, ?_⟩)))
      rw [← hr] at he
      exact he
    split at hq
    · split at hq
      · rename_i hvd
        rw [← Option.some.inj hq] at he
        exact .inr (.inr (.inr (.inr (.inr ⟨v.text, hz, hvd, he⟩))))
      · cases hq
    split at hq
    · rw [← Option.some.inj hq] at he; exact .inr (.inr (.inr (.inr (.inl ⟨v.text, hz, he⟩))))
    · cases hq
theorem i64_back {i : Int} (h0 : -9223372036854775808 ≤ i) (h1 : i ≤ 9223372036854775807) : IntKind.i64.wrap (valB (numB (u64N i) 8)) = i := by
  have hu : ((u64N i : Nat) : Int) = i % 18446744073709551616 := by
    unfold u64N IntKind.wrap
    have e4 : (2 : Int) ^ IntKind.u64.bits = 18446744073709551616 := rfl
    simp only [e4]
    rw [if_neg (by simp [IntKind.signed])]
    omega
  have hlt : u64N i < 256 ^ 8 := by have : (256 : Nat) ^ 8 = 18446744073709551616 := by decide
                                    omega
  rw [valB_numB hlt, hu]
  unfold IntKind.wrap
  have e4 : (2 : Int) ^ IntKind.i64.bits = 18446744073709551616 := rfl
  have e5 : (2 : Int) ^ (IntKind.i64.bits - 1) = 9223372036854775808 := rfl
  simp only [e4, e5]
  split
  · rename_i h; simp only [IntKind.signed, Bool.true_and, decide_eq_true_eq] at h; omega
  · rename_i h; simp only [IntKind.signed, Bool.true_and, decide_eq_true_eq] at h; omega
end Go.Proofs.YtphaegcoldpclaaDoor
