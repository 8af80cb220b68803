import Derived.Test.YtphaegcoldpclaaDoorSbB
set_option linter.unusedSimpArgs false
set_option linter.unusedVariables false
set_option maxRecDepth 100000
namespace Go.Proofs.YtphaegcoldpclaaDoor
open Go Go.Fx Go.Proofs Go.Pl

set_option maxHeartbeats 8000000 in
theorem rvalue_spec (b : Nat) (s : BA) (i : Nat) (v : Vl) (A : HProp) (hA : UT A) (h : At s i (putVB v)) (hs : s.size ≤ 1000000) (hc : checkV v = true) (hw : v.wf) :
    FSpec Tryd.prog 79 [.pointer (some ⟨b, 0, none⟩)] [rdP b s i, A] Unit (fun _ => True) (fun _ => .agg (valV v).toArray) (fun _ => [rdP b s (i + (putVB v).size), A]) := by
  have hck := vCheck_spec v A hA hw
  rw [hc, if_pos rfl] at hck
  have e0 : (!decide ((0 : Int) = (0 : Int))) = false := by decide
  rcases checkV_cases hc hw with rfl | ⟨n, hn, rfl⟩ | ⟨n, n0, n1, rfl⟩ | ⟨r, r0, r1, rfl⟩ | ⟨t, ht, rfl⟩ | ⟨t, ht, hv, rfl⟩
  · have e : putVB ⟨0, 0, 0, ⟨#[]⟩⟩ = oneB 0 := rfl
    have hle := h.le
    rw [e, oneB_size] at hle
    rw [e] at h
    rw [e, oneB_size]
    clear e
    have ht1 := take_spec b s i 1 hle hs
    rw [oneB_at h] at ht1
    have hg := oneB_get 0
    have hb : ((b8 0).toNat : Int) = 0 := rfl
    dsimp only [valV] at hck ⊢
    refine spec_intro [] _ Tryd.func79 rfl Tryd.ntmps79 (by rfl) (fun w0 R => ?_)
    repeat' (first | (refine go_Y ?_; intros) | (refine gs_Y ?_ ?_ <;> (intro hgd; try (simp only [Bool.not_true, Bool.not_false] at hgd))) | (refine gc_Y ?_ ?_ <;> intro _) | fail)
    refine cl_Y (ht1) ?_
    intro _ _
    repeat' (first | (refine ro_Y ?_; intros) | fail)
    rw [hb]
    repeat' (first | (refine go_Y ?_; intros) | (refine gs_Y ?_ ?_ <;> (intro hgd; try (simp only [Bool.not_true, Bool.not_false] at hgd))) | (refine gc_Y ?_ ?_ <;> intro _) | fail)
    refine cl_Y (hck) ?_
    intro _ _
    repeat' (first | (refine go_Y ?_; intros) | (refine gs_Y ?_ ?_ <;> (intro hgd; try (simp only [Bool.not_true, Bool.not_false] at hgd))) | (refine gc_Y ?_ ?_ <;> intro _) | fail)
    (refine rt_Y (y := ()) (hrs := Tryd.results79) (hv := ?_) (hφ := ?_))
    · rfl
    · trivial
  · have e : putVB ⟨1, n, 0, ⟨#[]⟩⟩ = oneB 1 ++ oneB n := rfl
    rw [e] at h ⊢
    rw [ByteArray.size_append, oneB_size, oneB_size]
    have h2 := h.right
    rw [oneB_size] at h2
    have hle := h2.le
    rw [oneB_size] at hle
    have ht1 := take_spec b s i 1 (by omega) hs
    rw [oneB_at h.left] at ht1
    have ht2 := take_spec b s (i + 1) 1 (by omega) hs
    rw [oneB_at h2] at ht2
    have hg := oneB_get 1
    have hg2 := oneB_get n
    have hb : ((b8 1).toNat : Int) = 1 := rfl
    have hb2 : ((b8 n).toNat : Int) = n := b8_ok (by omega) (by omega)
    have hw2 : IntKind.i64.wrap n = n := wrap_i64 (by omega) (by omega)
    dsimp only [valV] at hck ⊢
    refine spec_intro [] _ Tryd.func79 rfl Tryd.ntmps79 (by rfl) (fun w0 R => ?_)
    repeat' (first | (refine go_Y ?_; intros) | (refine gs_Y ?_ ?_ <;> (intro hgd; try (simp only [Bool.not_true, Bool.not_false] at hgd))) | (refine gc_Y ?_ ?_ <;> intro _) | fail)
    refine cl_Y (ht1) ?_
    intro _ _
    repeat' (first | (refine ro_Y ?_; intros) | fail)
    rw [hb]
    repeat' (first | (refine go_Y ?_; intros) | (refine gs_Y ?_ ?_ <;> (intro hgd; try (simp only [Bool.not_true, Bool.not_false] at hgd))) | (refine gc_Y ?_ ?_ <;> intro _) | fail)
    refine cl_Y (ht2) ?_
    intro _ _
    repeat' (first | (refine ro_Y ?_; intros) | fail)
    rw [hb2, hw2]
    repeat' (first | (refine go_Y ?_; intros) | (refine gs_Y ?_ ?_ <;> (intro hgd; try (simp only [Bool.not_true, Bool.not_false] at hgd))) | (refine gc_Y ?_ ?_ <;> intro _) | fail)
    refine cl_Y (hck) ?_
    intro _ _
    repeat' (first | (refine go_Y ?_; intros) | (refine gs_Y ?_ ?_ <;> (intro hgd; try (simp only [Bool.not_true, Bool.not_false] at hgd))) | (refine gc_Y ?_ ?_ <;> intro _) | fail)
    (refine rt_Y (y := ()) (hrs := Tryd.results79) (hv := ?_) (hφ := ?_))
    · rfl
    · trivial
  · have e : putVB ⟨2, n, 0, ⟨#[]⟩⟩ = oneB 2 ++ numB (u64N n) 8 := rfl
    rw [e] at h ⊢
    rw [ByteArray.size_append, oneB_size, numB_size]
    have h2 := h.right
    rw [oneB_size] at h2
    have hle := h2.le
    rw [numB_size] at hle
    have hx2 := h2.ext
    rw [numB_size] at hx2
    have ht1 := take_spec b s i 1 (by omega) hs
    rw [oneB_at h.left] at ht1
    have ht2 := number_spec b s (i + 1) (by omega) hs
    rw [hx2] at ht2
    have hg := oneB_get 2
    have hb : ((b8 2).toNat : Int) = 2 := rfl
    have hw2 := i64_back n0 n1
    dsimp only [valV] at hck ⊢
    refine spec_intro [] _ Tryd.func79 rfl Tryd.ntmps79 (by rfl) (fun w0 R => ?_)
    repeat' (first | (refine go_Y ?_; intros) | (refine gs_Y ?_ ?_ <;> (intro hgd; try (simp only [Bool.not_true, Bool.not_false] at hgd))) | (refine gc_Y ?_ ?_ <;> intro _) | fail)
    refine cl_Y (ht1) ?_
    intro _ _
    repeat' (first | (refine ro_Y ?_; intros) | fail)
    rw [hb]
    repeat' (first | (refine go_Y ?_; intros) | (refine gs_Y ?_ ?_ <;> (intro hgd; try (simp only [Bool.not_true, Bool.not_false] at hgd))) | (refine gc_Y ?_ ?_ <;> intro _) | fail)
    refine cl_Y (ht2) ?_
    intro _ _
    repeat' (first | (refine go_Y ?_; intros) | (refine gs_Y ?_ ?_ <;> (intro hgd; try (simp only [Bool.not_true, Bool.not_false] at hgd))) | (refine gc_Y ?_ ?_ <;> intro _) | fail)
    refine cl_Y (hck) ?_
    intro _ _
    repeat' (first | (refine go_Y ?_; intros) | (refine gs_Y ?_ ?_ <;> (intro hgd; try (simp only [Bool.not_true, Bool.not_false] at hgd))) | (refine gc_Y ?_ ?_ <;> intro _) | fail)
    (refine rt_Y (y := ()) (hrs := Tryd.results79) (hv := ?_) (hφ := ?_))
    · rfl
    · trivial
  · have e : putVB ⟨3, 0, r, ⟨#[]⟩⟩ = oneB 3 ++ numB (u64N r) 8 := rfl
    rw [e] at h ⊢
    rw [ByteArray.size_append, oneB_size, numB_size]
    have h2 := h.right
    rw [oneB_size] at h2
    have hle := h2.le
    rw [numB_size] at hle
    have hx2 := h2.ext
    rw [numB_size] at hx2
    have ht1 := take_spec b s i 1 (by omega) hs
    rw [oneB_at h.left] at ht1
    have ht2 := number_spec b s (i + 1) (by omega) hs
    rw [hx2, num_back r0 (by have : (256 : Int) ^ 8 = 18446744073709551616 := by decide
                             omega) (by omega)] at ht2
    have hg := oneB_get 3
    have hb : ((b8 3).toNat : Int) = 3 := rfl
    dsimp only [valV] at hck ⊢
    refine spec_intro [] _ Tryd.func79 rfl Tryd.ntmps79 (by rfl) (fun w0 R => ?_)
    repeat' (first | (refine go_Y ?_; intros) | (refine gs_Y ?_ ?_ <;> (intro hgd; try (simp only [Bool.not_true, Bool.not_false] at hgd))) | (refine gc_Y ?_ ?_ <;> intro _) | fail)
    refine cl_Y (ht1) ?_
    intro _ _
    repeat' (first | (refine ro_Y ?_; intros) | fail)
    rw [hb]
    repeat' (first | (refine go_Y ?_; intros) | (refine gs_Y ?_ ?_ <;> (intro hgd; try (simp only [Bool.not_true, Bool.not_false] at hgd))) | (refine gc_Y ?_ ?_ <;> intro _) | fail)
    refine cl_Y (ht2) ?_
    intro _ _
    repeat' (first | (refine go_Y ?_; intros) | (refine gs_Y ?_ ?_ <;> (intro hgd; try (simp only [Bool.not_true, Bool.not_false] at hgd))) | (refine gc_Y ?_ ?_ <;> intro _) | fail)
    refine cl_Y (hck) ?_
    intro _ _
    repeat' (first | (refine go_Y ?_; intros) | (refine gs_Y ?_ ?_ <;> (intro hgd; try (simp only [Bool.not_true, Bool.not_false] at hgd))) | (refine gc_Y ?_ ?_ <;> intro _) | fail)
    (refine rt_Y (y := ()) (hrs := Tryd.results79) (hv := ?_) (hφ := ?_))
    · rfl
    · trivial
  · have e : putVB ⟨4, 0, 0, t⟩ = oneB 4 ++ (oneB t.size ++ t) := rfl
    rw [e] at h ⊢
    rw [ByteArray.size_append, ByteArray.size_append, oneB_size, oneB_size, show i + (1 + (1 + t.size)) = i + 1 + 1 + t.size by omega]
    have h2 := h.right
    rw [oneB_size] at h2
    have hle := h2.le
    have ht1 := take_spec b s i 1 (by omega) hs
    rw [oneB_at h.left] at ht1
    have ht2 := text_spec b s t (i + 1) false A hA h2 hs ht (fun e => by cases e)
    have hg := oneB_get 4
    have hb : ((b8 4).toNat : Int) = 4 := rfl
    dsimp only [valV] at hck ⊢
    refine spec_intro [] _ Tryd.func79 rfl Tryd.ntmps79 (by rfl) (fun w0 R => ?_)
    repeat' (first | (refine go_Y ?_; intros) | (refine gs_Y ?_ ?_ <;> (intro hgd; try (simp only [Bool.not_true, Bool.not_false] at hgd))) | (refine gc_Y ?_ ?_ <;> intro _) | fail)
    refine cl_Y (ht1) ?_
    intro _ _
    repeat' (first | (refine ro_Y ?_; intros) | fail)
    rw [hb]
    repeat' (first | (refine go_Y ?_; intros) | (refine gs_Y ?_ ?_ <;> (intro hgd; try (simp only [Bool.not_true, Bool.not_false] at hgd))) | (refine gc_Y ?_ ?_ <;> intro _) | fail)
    refine cl_Y (ht2) ?_
    intro _ _
    repeat' (first | (refine go_Y ?_; intros) | (refine gs_Y ?_ ?_ <;> (intro hgd; try (simp only [Bool.not_true, Bool.not_false] at hgd))) | (refine gc_Y ?_ ?_ <;> intro _) | fail)
    refine cl_Y (hck) ?_
    intro _ _
    repeat' (first | (refine go_Y ?_; intros) | (refine gs_Y ?_ ?_ <;> (intro hgd; try (simp only [Bool.not_true, Bool.not_false] at hgd))) | (refine gc_Y ?_ ?_ <;> intro _) | fail)
    (refine rt_Y (y := ()) (hrs := Tryd.results79) (hv := ?_) (hφ := ?_))
    · rfl
    · trivial
  · have e : putVB ⟨5, 0, 0, t⟩ = oneB 5 ++ (oneB t.size ++ t) := rfl
    rw [e] at h ⊢
    rw [ByteArray.size_append, ByteArray.size_append, oneB_size, oneB_size, show i + (1 + (1 + t.size)) = i + 1 + 1 + t.size by omega]
    have h2 := h.right
    rw [oneB_size] at h2
    have hle := h2.le
    have ht1 := take_spec b s i 1 (by omega) hs
    rw [oneB_at h.left] at ht1
    have ht2 := text_spec b s t (i + 1) true A hA h2 hs ht (fun _ => hv)
    have hg := oneB_get 5
    have hb : ((b8 5).toNat : Int) = 5 := rfl
    dsimp only [valV] at hck ⊢
    refine spec_intro [] _ Tryd.func79 rfl Tryd.ntmps79 (by rfl) (fun w0 R => ?_)
    repeat' (first | (refine go_Y ?_; intros) | (refine gs_Y ?_ ?_ <;> (intro hgd; try (simp only [Bool.not_true, Bool.not_false] at hgd))) | (refine gc_Y ?_ ?_ <;> intro _) | fail)
    refine cl_Y (ht1) ?_
    intro _ _
    repeat' (first | (refine ro_Y ?_; intros) | fail)
    rw [hb]
    repeat' (first | (refine go_Y ?_; intros) | (refine gs_Y ?_ ?_ <;> (intro hgd; try (simp only [Bool.not_true, Bool.not_false] at hgd))) | (refine gc_Y ?_ ?_ <;> intro _) | fail)
    refine cl_Y (ht2) ?_
    intro _ _
    repeat' (first | (refine go_Y ?_; intros) | (refine gs_Y ?_ ?_ <;> (intro hgd; try (simp only [Bool.not_true, Bool.not_false] at hgd))) | (refine gc_Y ?_ ?_ <;> intro _) | fail)
    refine cl_Y (hck) ?_
    intro _ _
    repeat' (first | (refine go_Y ?_; intros) | (refine gs_Y ?_ ?_ <;> (intro hgd; try (simp only [Bool.not_true, Bool.not_false] at hgd))) | (refine gc_Y ?_ ?_ <;> intro _) | fail)
    (refine rt_Y (y := ()) (hrs := Tryd.results79) (hv := ?_) (hφ := ?_))
    · rfl
    · trivial
set_option maxHeartbeats 8000000 in
theorem getRow_spec (s : BA) (l : List Vl) (A : HProp) (hA : UT A) (h : At s 0 (putRB l)) (hs : s.size ≤ 1000000) (hr : rowB l = true) (hwf : ∀ v ∈ l, v.wf) :
    FSpec Tryd.prog 49 [.string s] [A] V1s (fun _ => True) (fun y => .tuple #[y.1, .int .i64 ((putRB l).size : Int), .int .i64 0]) (fun y => [row 71 4 y.1 (l.map valV), A]) := by
  obtain ⟨h1, hv⟩ := row_at h
  have hle := h.le
  have hsz := row_size l
  have hrw := hr
  unfold rowB at hrw
  simp only [Bool.and_eq_true, decide_eq_true_eq, List.all_eq_true] at hrw
  obtain ⟨hl1, hl8, hck⟩ := hrw
  have hpos := putRB_pos l
  have hg := oneB_get (l.length : Int)
  have hw := conv_one (k := (l.length : Int)) (by omega) (by omega)
  have hc1 : decide ((l.length : Int) < 1) = false := by rw [decide_eq_false_iff_not]; omega
  have hc2 : decide ((8 : Int) < (l.length : Int)) = false := by rw [decide_eq_false_iff_not]; omega
  refine spec_intro [] _ Tryd.func49 rfl Tryd.ntmps49 (by rfl) (fun w0 R => ?_)
  refine ok_seq ?_
  refine ok_region ?_
  repeat' (first | (refine ro_Y ?_; intros) | fail)
  rename_i b4
  refine cont_then ?_
  refine ok_seq ?_
  refine ok_defer [.pointer (some ⟨b4, 0, none⟩)] rfl (.cons rfl .nil) ?_
  refine cont_then ?_
  repeat' (first | (refine go_Y ?_; intros) | (refine gs_Y ?_ ?_ <;> (intro hgd; try (simp only [Bool.not_true, Bool.not_false] at hgd))) | (refine gc_Y ?_ ?_ <;> intro _) | fail)
  rename_i b5
  have ht1 := take_spec b5 s 0 1 (by omega) hs
  rw [oneB_at h1] at ht1
  refine cl_Y (ht1) ?_
  intro _ _
  repeat' (first | (refine go_Y ?_; intros) | (refine gs_Y ?_ ?_ <;> (intro hgd; try (simp only [Bool.not_true, Bool.not_false] at hgd))) | (refine gc_Y ?_ ?_ <;> intro _) | fail)
  refine ok_map (fun _ h => nilRow (e := 71) (n := 4) h) ?_
  refine ok_map (L' := [rdP b5 s (1 + offV l 0), row 71 4 (.slice none 0 0) ((l.take 0).map valV), pts b4 (.cells [.int .i64 0].toArray 35), A] ++ R) (by rw [show 1 + offV l 0 = 0 + 1 from rfl, List.take_zero, List.map_nil]; exact entD) ?_
  refine ok_loop' (γ := Nat × V1s) (fun g ρ L => g.1 ≤ l.length ∧ Knows ρ [(4, .pointer (some ⟨b4, 0, none⟩)), (5, .pointer (some ⟨b5, 0, none⟩)), (7, g.2.1), (22, .int .i64 (l.length : Int)), (23, .int .i64 (g.1 : Int))] ∧
      L = [rdP b5 s (1 + offV l g.1), row 71 4 g.2.1 ((l.take g.1).map valV), pts b4 (.cells [.int .i64 0].toArray 35), A] ++ R) (fun g => l.length - g.1) (0, ⟨.slice none 0 0, rfl⟩) ⟨by omega, ⟨rfl, rfl, rfl, rfl, rfl, trivial⟩, rfl⟩ ?_
  rintro ⟨j, ⟨v, hvv⟩⟩ ρ L ⟨hj, hk, rfl⟩
  dsimp only at hj hk ⊢
  refine ok_regs hk ?_
  cases t1 : decide ((j : Int) < (l.length : Int)) with
  | false =>
    have hje : j = l.length := by have := of_decide_eq_false t1; omega
    subst hje
    rw [List.take_length, ← hsz]
    repeat' (first | (refine go_Y ?_; intros) | (refine gs_Y ?_ ?_ <;> (intro hgd; try (simp only [Bool.not_true, Bool.not_false] at hgd))) | (refine gc_Y ?_ ?_ <;> intro _) | fail)
    refine cont_deferred (.inr rfl) (caught_idle _) ?_
    (refine rt_Y (y := ⟨v, hvv⟩) (hrs := Tryd.results49) (hv := ?_) (hφ := ?_))
    · rfl
    · trivial
  | true =>
    have h0 : j < l.length := by have := of_decide_eq_true t1; omega
    have hat := hv j h0
    rw [Nat.zero_add] at hat
    have hrv := rvalue_spec b5 s (1 + offV l j) l[j] A hA hat hs (hck _ (List.getElem_mem h0)) (hwf _ (List.getElem_mem h0))
    rw [show 1 + offV l j + (putVB l[j]).size = 1 + offV l (j + 1) by rw [offV_succ h0]; omega] at hrv
    have htk : (l.take (j + 1)).map valV = (l.take j).map valV ++ [valV l[j]] := by rw [List.take_succ_eq_append_getElem h0, List.map_append]; rfl
    have hlj : (l.take j).length = j := by rw [List.length_take]; omega
    generalize l[j] = x at hrv htk
    obtain ⟨k, i, r, t⟩ := x
    dsimp only [valV] at hrv htk
    repeat' (first | (refine go_Y ?_; intros) | (refine gs_Y ?_ ?_ <;> (intro hgd; try (simp only [Bool.not_true, Bool.not_false] at hgd))) | (refine gc_Y ?_ ?_ <;> intro _) | fail)
    refine cl_Y (hrv) ?_
    intro _ _
    repeat' (first | (refine go_Y ?_; intros) | (refine gs_Y ?_ ?_ <;> (intro hgd; try (simp only [Bool.not_true, Bool.not_false] at hgd))) | (refine gc_Y ?_ ?_ <;> intro _) | fail)
    rename_i v3 hv3 v4 hv4
    refine cont_map (L' := [rdP b5 s (1 + offV l (j + 1)), row 71 4 v4 ((l.take (j + 1)).map valV), pts b4 (.cells [.int .i64 0].toArray 35), A] ++ R) (by rw [htk]; exact entD) ?_
    refine cont_back (j + 1, ⟨v4, hv4⟩) ⟨h0, ⟨rfl, rfl, rfl, rfl, rfl, trivial⟩, rfl⟩ (by show l.length - (j + 1) < l.length - j; omega)
end Go.Proofs.YtphaegcoldpclaaDoor
