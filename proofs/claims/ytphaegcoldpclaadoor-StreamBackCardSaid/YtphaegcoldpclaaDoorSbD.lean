import Derived.Test.YtphaegcoldpclaaDoorSbC
import Derived.Test.YtphaegcoldpclaaDoorG7
import Derived.Test.YtphaegcoldpclaaDoorFwFv
import Derived.Test.YtphaegcoldpclaaDoorPool
set_option linter.unusedSimpArgs false
set_option linter.unusedVariables false
set_option maxRecDepth 100000
namespace Go.Pl
open Go Go.Fx
theorem putEB_apart (tx k nth : Int) (c : Chg) : putEB tx k nth c = numB (u64N tx) 8 ++ (numB (u64N k) 2 ++ (numB (u64N nth) 2 ++ (oneB c.table ++ (oneB c.kind ++ rowsB (hasE c))))) := by
  unfold putEB
  rw [rowsB_pre]
  apply tl_inj
  simp only [tl_app, List.append_assoc]
  rfl
theorem At.get {s : BA} {i : Nat} {k : Int} (h : At s i (oneB k)) : s.data.toList[i]? = some (b8 k) := by
  obtain ⟨a, b, e, rfl⟩ := h
  rw [show s.data.toList = tl s from rfl, e, List.getElem?_append_right (Nat.le_refl _), Nat.sub_self]
  rfl
theorem At.end_ {s t : BA} {i : Nat} (h : At s i t) (he : s.size = i + t.size) : s.extract i s.size = t := by rw [he]; exact h.ext
theorem ext_right (a b : BA) : (a ++ b).extract a.size (a ++ b).size = b := by
  refine At.end_ (i := a.size) ?_ (by rw [ByteArray.size_append])
  exact ⟨tl a, [], by rw [tl_app, List.append_nil], tl_len a⟩
theorem notE_nil {k nth : Int} {c : Chg} (h : mayE k nth c = true) : ∀ l ∈ notE c, l = [] := by
  unfold mayE at h
  simp only [Bool.and_eq_true, List.all_eq_true, decide_eq_true_eq] at h
  exact fun l hl => List.eq_nil_of_length_eq_zero (Nat.le_zero.1 (h.2.2 l hl))
theorem hasE_len (c : Chg) : 1 ≤ (hasE c).length ∧ (hasE c).length ≤ 2 := by unfold hasE; split <;> (try split) <;> simp
theorem hasE_in {c : Chg} {l : List Vl} (h : l ∈ hasE c) : l = c.bef ∨ l = c.aft := by
  unfold hasE at h
  split at h
  · exact .inr (List.mem_singleton.1 h)
  · split at h
    · exact .inl (List.mem_singleton.1 h)
    · rcases List.mem_cons.1 h with h | h
      · exact .inl h
      · exact .inr (List.mem_singleton.1 h)
end Go.Pl
namespace Go.Proofs.YtphaegcoldpclaaDoor
open Go Go.Fx Go.Proofs Go.Pl

theorem Vw.nil {P : HProp} {n : Nat} : Vw P n (.slice none 0 0) [] := fun h hp => ⟨fun _ hx => by simp at hx, none, 0, rfl, .inl rfl, fun _ => rfl, fun _ _ e => by cases e⟩
structure RdR (A : HProp) where
  rs : List Rw
  P : HProp
  ext : Ext A P
  vw : ∀ x ∈ rs, Vw P 4 x.1.1 (x.2.map valV)
set_option maxHeartbeats 16000000 in
theorem evGet_spec (tx k nth : Int) (c : Chg) (A : HProp) (hU : UT A) (hm : mayE k nth c = true) (t0 : 0 ≤ tx) (t1 : tx ≤ 18446744073709551615) (hwb : ∀ v ∈ c.bef, v.wf) (hwa : ∀ v ∈ c.aft, v.wf) :
    FSpec Tryd.prog 20 [.string (putEB tx k nth c)] [A] (Cm × HProp) (fun y => Ext A y.2 ∧ CmR y.2 y.1 ∧ y.1.c = c) (fun y => .tuple #[.agg (emV ⟨tx, k, nth, y.1⟩).toArray, .int .i64 0]) (fun y => [y.2]) := by
  obtain ⟨k0, k1, b0, b1, tt0, tt1, n0, n1, hrow⟩ := mayE_all hm
  have hnot := notE_nil hm
  obtain ⟨hl1, hl2⟩ := hasE_len c
  have hin := fun l => @hasE_in c l
  have hrl : ∀ l ∈ hasE c, l.length ≤ 1000000 := fun l hl => by
    have := hrow l hl
    unfold rowB at this
    simp only [Bool.and_eq_true, decide_eq_true_eq] at this
    omega
  have hsz := foldR_size hrow (⟨#[]⟩ : BA)
  have hs0 : (putEB tx k nth c).size = 14 + (rowsB (hasE c)).size := by
    rw [putEB_apart]
    simp only [ByteArray.size_append, numB_size, oneB_size]
    omega
  have hs1 : (rowsB (hasE c)).size ≤ 1634 := by
    have : (rowsB (hasE c)).size ≤ (⟨#[]⟩ : BA).size + 817 * (hasE c).length := hsz
    have e : (⟨#[]⟩ : BA).size = 0 := rfl
    omega
  have hA0 : At (putEB tx k nth c) 0 (putEB tx k nth c) := At.self _
  rw [show At (putEB tx k nth c) 0 (putEB tx k nth c) = At (putEB tx k nth c) 0 (numB (u64N tx) 8 ++ (numB (u64N k) 2 ++ (numB (u64N nth) 2 ++ (oneB c.table ++ (oneB c.kind ++ rowsB (hasE c)))))) by rw [← putEB_apart]] at hA0
  generalize putEB tx k nth c = s at hs0 hA0
  have hx1 := hA0.left.ext
  have hB := hA0.right
  have hx2 := hB.left.ext
  have hC := hB.right
  have hx3 := hC.left.ext
  have hD := hC.right
  have hc12 := hD.left.get
  have hE := hD.right
  have hc13 := hE.left.get
  have hF := hE.right
  simp only [numB_size, oneB_size, Nat.zero_add, Nat.reduceAdd] at hx1 hx2 hx3 hc12 hc13 hF
  have hx4 := hF.end_ (by omega)
  clear hA0 hB hC hD hE hF
  have p16 : (256 : Int) ^ 2 = 65536 := by decide
  have p64 : (256 : Int) ^ 8 = 18446744073709551616 := by decide
  have hg1 := get64_spec (s.extract 0 8) (by rw [hx1, numB_size]; omega) (by rw [hx1, numB_size]; omega)
  rw [hx1, num_back t0 (by omega) (by omega), ← hx1] at hg1
  have hg2 := getI_spec (s.extract 8 10) (by rw [hx2, numB_size])
  rw [hx2, num_back tt0 (by omega) (by omega), ← hx2] at hg2
  have hg3 := getI_spec (s.extract 10 12) (by rw [hx3, numB_size])
  rw [hx3, num_back n0 (by omega) (by omega), ← hx3] at hg3
  have hcv := conv_one (k := c.table) b0 (by omega)
  have hck := b8_ok (x := c.kind) (by omega) (by omega)
  have hr1 : (0 : Int) ≤ 8 ∧ (8 : Int) ≤ (s.size : Int) := ⟨by omega, by omega⟩
  have hr2 : (0 : Int) ≤ 8 ∧ (8 : Int) ≤ 10 ∧ (10 : Int) ≤ (s.size : Int) := ⟨by omega, by omega, by omega⟩
  have hr3 : (0 : Int) ≤ 10 ∧ (10 : Int) ≤ 12 ∧ (12 : Int) ≤ (s.size : Int) := ⟨by omega, by omega, by omega⟩
  have hr4 : (0 : Int) ≤ 14 ∧ (14 : Int) ≤ (s.size : Int) := ⟨by omega, by omega⟩
  have hlen : decide ((s.size : Int) < 14) = false := by rw [decide_eq_false_iff_not]; omega
  have e0 : (!decide ((0 : Int) = (0 : Int))) = false := by decide
  refine spec_intro [] _ Tryd.func20 rfl Tryd.ntmps20 (by rfl) (fun w0 R => ?_)
  repeat' (first | (refine go_Y ?_; intros) | (refine gs_Y ?_ ?_ <;> (intro hgd; try (simp only [Bool.not_true, Bool.not_false] at hgd))) | (refine gc_Y ?_ ?_ <;> intro _) | fail)
  rename_i b2
  refine ok_meetE (γ := Nat) (fun b4 ρ L => Knows ρ [(0, .string s), (2, .pointer (some ⟨b2, 0, none⟩)), (3, .int .i64 0), (4, .pointer (some ⟨b4, 0, none⟩))] ∧
      L = [pts b2 (.cells [.int .u64 0, .int .i64 0, .int .i64 0, .int .u8 0, .int .i64 0, .slice none 0 0, .slice none 0 0].toArray 53), A, pts b4 (.cells [.int .u64 tx, .int .i64 k, .int .i64 nth, .int .u8 ((b8 c.kind).toNat : Int), .int .i64 c.table, .slice none 0 0, .slice none 0 0].toArray 53)] ++ R) ?_ ?_
  · refine ok_draw_node (cv := []) 5 [2, 5, 8, 16, 17] [] (by kernel_rfl) rfl (by decide +kernel) (by decide +kernel) (by decide +kernel) (fun _ _ => trivial) _ rfl ?_
    refine node_have 0 [] (γ := Nat) (fun b4 ρ L => Knows ρ [(0, .string s), (2, .pointer (some ⟨b2, 0, none⟩)), (3, .int .i64 0), (4, .pointer (some ⟨b4, 0, none⟩))] ∧ L = [pts b2 (.cells [.int .u64 0, .int .i64 0, .int .i64 0, .int .u8 0, .int .i64 0, .slice none 0 0, .slice none 0 0].toArray 53), A, pts b4 (.cells [.int .u64 tx, .int .i64 k, .int .i64 nth, .int .u8 ((b8 c.kind).toNat : Int), .int .i64 c.table, .slice none 0 0, .slice none 0 0].toArray 53)] ++ R) ?_ ?_
    · rintro b4 ρ L ⟨hk, rfl⟩
      refine cont_regs hk ?_
      refine cont_node0 (by decide +kernel) ?_
      repeat' (first | (refine go_Y ?_; intros) | fail)
      refine cont_map (L' := [pts b2 (.cells [.int .u64 0, .int .i64 0, .int .i64 0, .int .u8 0, .int .i64 0, .slice none 0 0, .slice none 0 0].toArray 53), A, pts b4 (.cells [.int .u64 tx, .int .i64 k, .int .i64 nth, .int .u8 ((b8 c.kind).toNat : Int), .int .i64 c.table, .slice none 0 0, .slice none 0 0].toArray 53)] ++ R) entD ?_
      exact cont_meet b4 ⟨⟨rfl, rfl, rfl, rfl, trivial⟩, rfl⟩
    intro n2_5_8_16_17
    refine node_have 1 [9, 10, 11, 12, 13, 14, 15, 17] (γ := Nat) (fun b4 ρ L => Knows ρ [(0, .string s), (2, .pointer (some ⟨b2, 0, none⟩)), (3, .int .i64 0), (18, .int .u64 tx), (21, .int .i64 k), (24, .int .i64 nth), (4, .pointer (some ⟨b4, 0, none⟩))] ∧ L = [pts b2 (.cells [.int .u64 0, .int .i64 0, .int .i64 0, .int .u8 0, .int .i64 0, .slice none 0 0, .slice none 0 0].toArray 53), A, pts b4 (.cells [.int .u64 0, .int .i64 0, .int .i64 0, .int .u8 0, .int .i64 0, .slice none 0 0, .slice none 0 0].toArray 53)] ++ R) ?_ ?_
    · rintro b4 ρ L ⟨hk, rfl⟩
      refine cont_regs hk ?_
      refine cont_node [] [(17, [9, 10, 11, 12, 13, 14, 15, 17], [])] rfl (by decide +kernel) ?_
      refine nodeE1 ?_
      · dsimp only [List.length_cons, List.length_nil]
        repeat' (first | (refine go_Y ?_; intros) | fail)
        refine cont_map (L' := [pts b2 (.cells [.int .u64 0, .int .i64 0, .int .i64 0, .int .u8 0, .int .i64 0, .slice none 0 0, .slice none 0 0].toArray 53), A, pts b4 (.cells [.int .u64 tx, .int .i64 k, .int .i64 nth, .int .u8 ((b8 c.kind).toNat : Int), .int .i64 c.table, .slice none 0 0, .slice none 0 0].toArray 53)] ++ R) entD ?_
        exact n2_5_8_16_17 b4 _ _ ⟨⟨rfl, rfl, rfl, rfl, trivial⟩, rfl⟩
    intro n2_5_8_16
    refine node_have 2 [9, 10, 11, 12, 13, 14, 15, 16, 17] (γ := Nat) (fun b4 ρ L => Knows ρ [(0, .string s), (2, .pointer (some ⟨b2, 0, none⟩)), (3, .int .i64 0), (18, .int .u64 tx), (21, .int .i64 k), (24, .int .i64 nth)] ∧ L = [pts b2 (.cells [.int .u64 0, .int .i64 0, .int .i64 0, .int .u8 0, .int .i64 0, .slice none 0 0, .slice none 0 0].toArray 53), A] ++ R) ?_ ?_
    · rintro b4 ρ L ⟨hk, rfl⟩
      refine cont_regs hk ?_
      refine cont_node [] [(16, [16], [9, 10, 11, 12, 13, 14, 15, 17])] rfl (by decide +kernel) ?_
      refine nodeE1 ?_
      · dsimp only [List.length_cons, List.length_nil]
        repeat' (first | (refine go_Y ?_; intros) | fail)
        rename_i w
        refine cont_map (L' := [pts b2 (.cells [.int .u64 0, .int .i64 0, .int .i64 0, .int .u8 0, .int .i64 0, .slice none 0 0, .slice none 0 0].toArray 53), A, pts w (.cells [.int .u64 0, .int .i64 0, .int .i64 0, .int .u8 0, .int .i64 0, .slice none 0 0, .slice none 0 0].toArray 53)] ++ R) entD ?_
        exact n2_5_8_16 w _ _ ⟨⟨rfl, rfl, rfl, rfl, rfl, rfl, rfl, trivial⟩, rfl⟩
    intro n2_5_8
    refine node_have 2 [6, 7, 8, 9, 10, 11, 12, 13, 14, 15, 17] (γ := Nat) (fun b4 ρ L => Knows ρ [(0, .string s), (2, .pointer (some ⟨b2, 0, none⟩)), (3, .int .i64 0), (18, .int .u64 tx), (21, .int .i64 k), (4, .pointer (some ⟨b4, 0, none⟩))] ∧ L = [pts b2 (.cells [.int .u64 0, .int .i64 0, .int .i64 0, .int .u8 0, .int .i64 0, .slice none 0 0, .slice none 0 0].toArray 53), A, pts b4 (.cells [.int .u64 0, .int .i64 0, .int .i64 0, .int .u8 0, .int .i64 0, .slice none 0 0, .slice none 0 0].toArray 53)] ++ R) ?_ ?_
    · rintro b4 ρ L ⟨hk, rfl⟩
      refine cont_regs hk ?_
      refine cont_node [] [(8, [6, 7, 8], [9, 10, 11, 12, 13, 14, 15, 17])] rfl (by decide +kernel) ?_
      refine nodeE1 ?_
      · dsimp only [List.length_cons, List.length_nil]
        repeat' (first | (refine go_Y ?_; intros) | fail)
        refine clN_Y (hg3) ?_
        intro _ _
        repeat' (first | (refine go_Y ?_; intros) | fail)
        refine cont_map (L' := [pts b2 (.cells [.int .u64 0, .int .i64 0, .int .i64 0, .int .u8 0, .int .i64 0, .slice none 0 0, .slice none 0 0].toArray 53), A, pts b4 (.cells [.int .u64 0, .int .i64 0, .int .i64 0, .int .u8 0, .int .i64 0, .slice none 0 0, .slice none 0 0].toArray 53)] ++ R) entD ?_
        exact n2_5_8_16 b4 _ _ ⟨⟨rfl, rfl, rfl, rfl, rfl, rfl, rfl, trivial⟩, rfl⟩
    intro n2_5_16
    refine node_have 3 [6, 7, 8, 9, 10, 11, 12, 13, 14, 15, 16, 17] (γ := Nat) (fun b4 ρ L => Knows ρ [(0, .string s), (2, .pointer (some ⟨b2, 0, none⟩)), (3, .int .i64 0), (18, .int .u64 tx), (21, .int .i64 k)] ∧ L = [pts b2 (.cells [.int .u64 0, .int .i64 0, .int .i64 0, .int .u8 0, .int .i64 0, .slice none 0 0, .slice none 0 0].toArray 53), A] ++ R) ?_ ?_
    · rintro b4 ρ L ⟨hk, rfl⟩
      refine cont_regs hk ?_
      refine cont_node [] [(8, [6, 7, 8], [9, 10, 11, 12, 13, 14, 15, 16, 17]), (16, [16], [6, 7, 8, 9, 10, 11, 12, 13, 14, 15, 17])] rfl (by decide +kernel) ?_
      refine nodeE2 ?_ ?_
      · dsimp only [List.length_cons, List.length_nil]
        repeat' (first | (refine go_Y ?_; intros) | fail)
        refine clN_Y (hg3) ?_
        intro _ _
        repeat' (first | (refine go_Y ?_; intros) | fail)
        refine cont_map (L' := [pts b2 (.cells [.int .u64 0, .int .i64 0, .int .i64 0, .int .u8 0, .int .i64 0, .slice none 0 0, .slice none 0 0].toArray 53), A] ++ R) entD ?_
        exact n2_5_8 b4 _ _ ⟨⟨rfl, rfl, rfl, rfl, rfl, rfl, trivial⟩, rfl⟩
      · dsimp only [List.length_cons, List.length_nil]
        repeat' (first | (refine go_Y ?_; intros) | fail)
        rename_i w
        refine cont_map (L' := [pts b2 (.cells [.int .u64 0, .int .i64 0, .int .i64 0, .int .u8 0, .int .i64 0, .slice none 0 0, .slice none 0 0].toArray 53), A, pts w (.cells [.int .u64 0, .int .i64 0, .int .i64 0, .int .u8 0, .int .i64 0, .slice none 0 0, .slice none 0 0].toArray 53)] ++ R) entD ?_
        exact n2_5_16 w _ _ ⟨⟨rfl, rfl, rfl, rfl, rfl, rfl, trivial⟩, rfl⟩
    intro n2_5
    refine node_have 3 [3, 4, 5, 6, 7, 8, 9, 10, 11, 12, 13, 14, 15, 17] (γ := Nat) (fun b4 ρ L => Knows ρ [(0, .string s), (2, .pointer (some ⟨b2, 0, none⟩)), (3, .int .i64 0), (18, .int .u64 tx), (4, .pointer (some ⟨b4, 0, none⟩))] ∧ L = [pts b2 (.cells [.int .u64 0, .int .i64 0, .int .i64 0, .int .u8 0, .int .i64 0, .slice none 0 0, .slice none 0 0].toArray 53), A, pts b4 (.cells [.int .u64 0, .int .i64 0, .int .i64 0, .int .u8 0, .int .i64 0, .slice none 0 0, .slice none 0 0].toArray 53)] ++ R) ?_ ?_
    · rintro b4 ρ L ⟨hk, rfl⟩
      refine cont_regs hk ?_
      refine cont_node [] [(5, [3, 4, 5], [6, 7, 8, 9, 10, 11, 12, 13, 14, 15, 17])] rfl (by decide +kernel) ?_
      refine nodeE1 ?_
      · dsimp only [List.length_cons, List.length_nil]
        repeat' (first | (refine go_Y ?_; intros) | fail)
        refine clN_Y (hg2) ?_
        intro _ _
        repeat' (first | (refine go_Y ?_; intros) | fail)
        refine cont_map (L' := [pts b2 (.cells [.int .u64 0, .int .i64 0, .int .i64 0, .int .u8 0, .int .i64 0, .slice none 0 0, .slice none 0 0].toArray 53), A, pts b4 (.cells [.int .u64 0, .int .i64 0, .int .i64 0, .int .u8 0, .int .i64 0, .slice none 0 0, .slice none 0 0].toArray 53)] ++ R) entD ?_
        exact n2_5_16 b4 _ _ ⟨⟨rfl, rfl, rfl, rfl, rfl, rfl, trivial⟩, rfl⟩
    intro n2_16
    refine node_have 4 [3, 4, 5, 6, 7, 8, 9, 10, 11, 12, 13, 14, 15, 16, 17] (γ := Nat) (fun b4 ρ L => Knows ρ [(0, .string s), (2, .pointer (some ⟨b2, 0, none⟩)), (3, .int .i64 0), (18, .int .u64 tx)] ∧ L = [pts b2 (.cells [.int .u64 0, .int .i64 0, .int .i64 0, .int .u8 0, .int .i64 0, .slice none 0 0, .slice none 0 0].toArray 53), A] ++ R) ?_ ?_
    · rintro b4 ρ L ⟨hk, rfl⟩
      refine cont_regs hk ?_
      refine cont_node [] [(5, [3, 4, 5], [6, 7, 8, 9, 10, 11, 12, 13, 14, 15, 16, 17]), (16, [16], [3, 4, 5, 6, 7, 8, 9, 10, 11, 12, 13, 14, 15, 17])] rfl (by decide +kernel) ?_
      refine nodeE2 ?_ ?_
      · dsimp only [List.length_cons, List.length_nil]
        repeat' (first | (refine go_Y ?_; intros) | fail)
        refine clN_Y (hg2) ?_
        intro _ _
        repeat' (first | (refine go_Y ?_; intros) | fail)
        refine cont_map (L' := [pts b2 (.cells [.int .u64 0, .int .i64 0, .int .i64 0, .int .u8 0, .int .i64 0, .slice none 0 0, .slice none 0 0].toArray 53), A] ++ R) entD ?_
        exact n2_5 b4 _ _ ⟨⟨rfl, rfl, rfl, rfl, rfl, trivial⟩, rfl⟩
      · dsimp only [List.length_cons, List.length_nil]
        repeat' (first | (refine go_Y ?_; intros) | fail)
        rename_i w
        refine cont_map (L' := [pts b2 (.cells [.int .u64 0, .int .i64 0, .int .i64 0, .int .u8 0, .int .i64 0, .slice none 0 0, .slice none 0 0].toArray 53), A, pts w (.cells [.int .u64 0, .int .i64 0, .int .i64 0, .int .u8 0, .int .i64 0, .slice none 0 0, .slice none 0 0].toArray 53)] ++ R) entD ?_
        exact n2_16 w _ _ ⟨⟨rfl, rfl, rfl, rfl, rfl, trivial⟩, rfl⟩
    intro n2
    refine node_have 4 [0, 1, 2, 3, 4, 5, 6, 7, 8, 9, 10, 11, 12, 13, 14, 15, 17] (γ := Nat) (fun b4 ρ L => Knows ρ [(0, .string s), (2, .pointer (some ⟨b2, 0, none⟩)), (3, .int .i64 0), (4, .pointer (some ⟨b4, 0, none⟩))] ∧ L = [pts b2 (.cells [.int .u64 0, .int .i64 0, .int .i64 0, .int .u8 0, .int .i64 0, .slice none 0 0, .slice none 0 0].toArray 53), A, pts b4 (.cells [.int .u64 0, .int .i64 0, .int .i64 0, .int .u8 0, .int .i64 0, .slice none 0 0, .slice none 0 0].toArray 53)] ++ R) ?_ ?_
    · rintro b4 ρ L ⟨hk, rfl⟩
      refine cont_regs hk ?_
      refine cont_node [] [(2, [0, 1, 2], [3, 4, 5, 6, 7, 8, 9, 10, 11, 12, 13, 14, 15, 17])] rfl (by decide +kernel) ?_
      refine nodeE1 ?_
      · dsimp only [List.length_cons, List.length_nil]
        repeat' (first | (refine go_Y ?_; intros) | fail)
        refine clN_Y (hg1) ?_
        intro _ _
        repeat' (first | (refine go_Y ?_; intros) | fail)
        refine cont_map (L' := [pts b2 (.cells [.int .u64 0, .int .i64 0, .int .i64 0, .int .u8 0, .int .i64 0, .slice none 0 0, .slice none 0 0].toArray 53), A, pts b4 (.cells [.int .u64 0, .int .i64 0, .int .i64 0, .int .u8 0, .int .i64 0, .slice none 0 0, .slice none 0 0].toArray 53)] ++ R) entD ?_
        exact n2_16 b4 _ _ ⟨⟨rfl, rfl, rfl, rfl, rfl, trivial⟩, rfl⟩
    intro n16
    refine cont_node [] [(2, [0, 1, 2], [3, 4, 5, 6, 7, 8, 9, 10, 11, 12, 13, 14, 15, 16, 17]), (16, [16], [0, 1, 2, 3, 4, 5, 6, 7, 8, 9, 10, 11, 12, 13, 14, 15, 17])] rfl (by decide +kernel) ?_
    refine nodeE2 ?_ ?_
    · dsimp only [List.length_cons, List.length_nil]
      repeat' (first | (refine go_Y ?_; intros) | fail)
      refine clN_Y (hg1) ?_
      intro _ _
      repeat' (first | (refine go_Y ?_; intros) | fail)
      refine cont_map (L' := [pts b2 (.cells [.int .u64 0, .int .i64 0, .int .i64 0, .int .u8 0, .int .i64 0, .slice none 0 0, .slice none 0 0].toArray 53), A] ++ R) entD ?_
      exact n2 0 _ _ ⟨⟨rfl, rfl, rfl, rfl, trivial⟩, rfl⟩
    · dsimp only [List.length_cons, List.length_nil]
      repeat' (first | (refine go_Y ?_; intros) | fail)
      rename_i w
      refine cont_map (L' := [pts b2 (.cells [.int .u64 0, .int .i64 0, .int .i64 0, .int .u8 0, .int .i64 0, .slice none 0 0, .slice none 0 0].toArray 53), A, pts w (.cells [.int .u64 0, .int .i64 0, .int .i64 0, .int .u8 0, .int .i64 0, .slice none 0 0, .slice none 0 0].toArray 53)] ++ R) entD ?_
      exact n16 w _ _ ⟨⟨rfl, rfl, rfl, rfl, trivial⟩, rfl⟩
  rintro b4 ρ L ⟨hk, rfl⟩
  refine cont_regs hk ?_
  rw [hck]
  repeat' (first | (refine go_Y ?_; intros) | (refine gs_Y ?_ ?_ <;> (intro hgd; try (simp only [Bool.not_true, Bool.not_false] at hgd))) | (refine gc_Y ?_ ?_ <;> intro _) | fail)
  have hz4 : s.extract (Int.toNat 14) s.size = rowsB ((hasE c).drop 0) := by rw [List.drop_zero]; exact hx4
  rw [hz4]
  clear hx1 hx2 hx3 hx4 hc12 hc13 hg1 hg2 hg3 hcv hck hr1 hr2 hr3 hr4 hlen hz4 hs0 hsz
  obtain ⟨kd, tb, bf, af⟩ := c
  dsimp only at k0 k1 b0 b1 hwb hwa hin ⊢
  refine ok_map (fun _ h => nilRow (e := 49) (n := 1) h) ?_
  refine ok_map (L' := [row 49 1 (.slice none 0 0) (([] : List Rw).map rwV), pts b2 (.cells [.int .u64 0, .int .i64 0, .int .i64 0, .int .u8 0, .int .i64 0, .slice none 0 0, .slice none 0 0].toArray 53), A, pts b4 (.cells [.int .u64 tx, .int .i64 k, .int .i64 nth, .int .u8 kd, .int .i64 tb, .slice none 0 0, .slice none 0 0].toArray 53)] ++ R) entD ?_
  refine ok_loop' (γ := Nat × RdR A × V1s) (fun g ρ L => g.1 ≤ (hasE ⟨kd, tb, bf, af⟩).length ∧ g.2.1.rs.map (·.2) = (hasE ⟨kd, tb, bf, af⟩).take g.1 ∧ Knows ρ [(2, .pointer (some ⟨b2, 0, none⟩)), (3, .int .i64 0), (4, .pointer (some ⟨b4, 0, none⟩)), (5, g.2.2.1), (6, .string (rowsB ((hasE ⟨kd, tb, bf, af⟩).drop g.1)))] ∧
      L = [row 49 1 g.2.2.1 (g.2.1.rs.map rwV), pts b2 (.cells [.int .u64 0, .int .i64 0, .int .i64 0, .int .u8 0, .int .i64 0, .slice none 0 0, .slice none 0 0].toArray 53), g.2.1.P, pts b4 (.cells [.int .u64 tx, .int .i64 k, .int .i64 nth, .int .u8 kd, .int .i64 tb, .slice none 0 0, .slice none 0 0].toArray 53)] ++ R) (fun g => (hasE ⟨kd, tb, bf, af⟩).length - g.1) (0, ⟨[], A, Ext.refl A, fun _ h => by simp at h⟩, ⟨.slice none 0 0, rfl⟩) ⟨by omega, by simp, ⟨rfl, rfl, rfl, rfl, rfl, trivial⟩, rfl⟩ ?_
  rintro ⟨j, ⟨rs, P, hE, hvw⟩, ⟨v, hv⟩⟩ ρ L ⟨hj, hrs, hk, rfl⟩
  dsimp only at hE hvw hj hrs hk ⊢
  refine ok_regs hk ?_
  have hUP := hU.ext hE
  have hjr : rs.length = j := by have := congrArg List.length hrs; rw [List.length_map, List.length_take] at this; omega
  have lr : (rs.map rwV).length = rs.length := by simp
  by_cases h0 : j < (hasE ⟨kd, tb, bf, af⟩).length
  · have hdr := List.drop_eq_getElem_cons h0
    have hr := hrow _ (List.getElem_mem h0)
    have hwr : ∀ v ∈ (hasE ⟨kd, tb, bf, af⟩)[j], v.wf := by
      rcases hin _ (List.getElem_mem h0) with e | e
      · rw [e]; exact hwb
      · rw [e]; exact hwa
    have htk : (hasE ⟨kd, tb, bf, af⟩).take (j + 1) = (hasE ⟨kd, tb, bf, af⟩).take j ++ [(hasE ⟨kd, tb, bf, af⟩)[j]] := List.take_succ_eq_append_getElem h0
    have hfs := foldR_size (ls := (hasE ⟨kd, tb, bf, af⟩).drop j) (fun l hl => hrow l (List.mem_of_mem_drop hl)) (⟨#[]⟩ : BA)
    have hz : (rowsB ((hasE ⟨kd, tb, bf, af⟩).drop j)).size ≤ 1000000 := by
      have e : (⟨#[]⟩ : BA).size = 0 := rfl
      have : (rowsB ((hasE ⟨kd, tb, bf, af⟩).drop j)).size ≤ (⟨#[]⟩ : BA).size + 817 * ((hasE ⟨kd, tb, bf, af⟩).drop j).length := hfs
      rw [List.length_drop] at this
      omega
    rw [hdr, rowsB_cons] at hz ⊢
    generalize (hasE ⟨kd, tb, bf, af⟩)[j] = r at hr hwr htk hz
    generalize hT : rowsB ((hasE ⟨kd, tb, bf, af⟩).drop (j + 1)) = T at hz
    have hgr := getRow_spec (putRB r ++ T) r P hUP (At.all _ _).left hz hr hwr
    have hpos := putRB_pos r
    have hext := ext_right (putRB r) T
    have hzz : (putRB r ++ T).size = (putRB r).size + T.size := ByteArray.size_append
    have hne : (!((putRB r ++ T).toList == (⟨#[]⟩ : ByteArray).toList)) = true := by
      rw [emp_size, Bool.not_eq_true', decide_eq_false_iff_not]; omega
    have h2 : decide (((rs.map rwV).length : Int) = 2) = false := by rw [decide_eq_false_iff_not]; omega
    have hsl : (0 : Int) ≤ ((putRB r).size : Int) ∧ ((putRB r).size : Int) ≤ ((putRB r ++ T).size : Int) := ⟨by omega, by omega⟩
    repeat' (first | (refine go_Y ?_; intros) | (refine gs_Y ?_ ?_ <;> (intro hgd; try (simp only [Bool.not_true, Bool.not_false] at hgd))) | (refine gc_Y ?_ ?_ <;> intro _) | fail)
    refine cl_Y (hgr) ?_
    rintro ⟨v1, hv1⟩ _
    dsimp only
    refine ops_learn (rowShapeS (e := 71) (n := 4) (v := v1) (xs := r.map valV) (by decide) takeD) ?_
    rintro ⟨p1, c1, rfl, _, _⟩
    refine ops_poolN (ty := 71) (n := 4) (v := .slice p1 (r.map valV).length c1) (xs := r.map valV) (P := P) takeD ?_
    intro P' hE' hvw'
    repeat' (first | (refine go_Y ?_; intros) | (refine gs_Y ?_ ?_ <;> (intro hgd; try (simp only [Bool.not_true, Bool.not_false] at hgd))) | (refine gc_Y ?_ ?_ <;> intro _) | fail)
    rename_i v3 hv3 v4 hv4
    rw [show (putRB r ++ T).extract ((putRB r).size : Int).toNat (putRB r ++ T).size = T from hext, ← hT]
    refine cont_map (L' := [row 49 1 v4 ((rs ++ [((⟨.slice p1 (r.map valV).length c1, hv1⟩ : V1s), r)]).map rwV), pts b2 (.cells [.int .u64 0, .int .i64 0, .int .i64 0, .int .u8 0, .int .i64 0, .slice none 0 0, .slice none 0 0].toArray 53), P', pts b4 (.cells [.int .u64 tx, .int .i64 k, .int .i64 nth, .int .u8 kd, .int .i64 tb, .slice none 0 0, .slice none 0 0].toArray 53)] ++ R) (by rw [List.map_append]; exact entD) ?_
    refine cont_back (j + 1, ⟨rs ++ [((⟨.slice p1 (r.map valV).length c1, hv1⟩ : V1s), r)], P', hE.trans hE', fun x hx => by
      rcases List.mem_append.1 hx with hx | hx
      · exact hE'.vw (hvw x hx)
      · rw [List.mem_singleton] at hx; subst hx; exact hvw'⟩, ⟨v4, hv4⟩) ⟨by dsimp only; omega, by dsimp only; rw [List.map_append, hrs, htk]; rfl, ⟨rfl, rfl, rfl, rfl, rfl, trivial⟩, rfl⟩ (by show _ - (j + 1) < _ - j; omega)
  · have hje : j = (hasE ⟨kd, tb, bf, af⟩).length := by omega
    rw [hje, List.take_length] at hrs
    rw [hje, List.drop_length, rowsB_nil]
    have hne : (!((⟨#[]⟩ : ByteArray).toList == (⟨#[]⟩ : ByteArray).toList)) = false := by rw [emp_size]; rfl
    have hrr := evRows_spec ⟨tx, k, nth, ⟨kd, tb, ⟨.slice none 0 0, rfl⟩, [], ⟨.slice none 0 0, rfl⟩, []⟩⟩ P ⟨Vw.nil, Vw.nil⟩
    dsimp only [emV] at hrr
    have hml : ((hasM ⟨kd, tb, ⟨.slice none 0 0, rfl⟩, [], ⟨.slice none 0 0, rfl⟩, []⟩).map rwV).length = (hasE ⟨kd, tb, bf, af⟩).length := by
      unfold hasM hasE
      dsimp only
      split
      · rfl
      · split <;> rfl
    refine ok_learn (rowShape (e := 49) (n := 1) (v := v) (xs := rs.map rwV) (by decide) takeD) ?_
    rintro (⟨rfl, hn⟩ | ⟨p, cp, rfl, _⟩)
    · exfalso; have := congrArg List.length hn; rw [lr, List.length_nil] at this; omega
    generalize hasM ⟨kd, tb, ⟨.slice none 0 0, rfl⟩, [], ⟨.slice none 0 0, rfl⟩, []⟩ = hm1 at hrr hml
    have hll : (!decide (((rs.map rwV).length : Int) = ((hm1.map rwV).length : Int))) = false := by
      rw [Bool.not_eq_false', decide_eq_true_eq, hml, lr]; omega
    repeat' (first | (refine go_Y ?_; intros) | (refine gs_Y ?_ ?_ <;> (intro hgd; try (simp only [Bool.not_true, Bool.not_false] at hgd))) | (refine gc_Y ?_ ?_ <;> intro _) | fail)
    refine cl_Y (hrr) ?_
    rintro ⟨⟨v5, hv5⟩, ⟨v6, hv6⟩⟩ _
    dsimp only
    refine ops_learn (rowShapeS (e := 49) (n := 1) (v := v5) (xs := hm1.map rwV) (by decide) takeD) ?_
    rintro ⟨p5, c5, rfl, _, _⟩
    cases q1 : decide (kd = 1) with
    | true =>
      obtain rfl : kd = 1 := of_decide_eq_true q1
      obtain rfl : bf = [] := hnot bf (by simp [notE])
      obtain ⟨⟨⟨w, hw⟩, r⟩, rfl⟩ : ∃ x, rs = [x] := by
        match rs, hrs with
        | [x], _ => exact ⟨x, rfl⟩
        | [], h => simp [hasE] at h
        | _ :: _ :: _, h => simp [hasE] at h
      obtain rfl : r = af := by simpa [hasE] using hrs
      have hvr := hvw _ (List.mem_singleton.2 rfl)
      have hrz := hrl r (by simp [hasE])
      dsimp only at hvr
      have hch := evCheck_spec ⟨tx, k, nth, ⟨1, tb, ⟨.slice none 0 0, rfl⟩, [], ⟨w, hw⟩, r⟩⟩ P hUP ⟨Vw.nil, hvr⟩ (fun v hv => by simp at hv) hwa (by simp) hrz
      dsimp only [emV] at hch
      rw [show mayE k nth (Cm.c ⟨1, tb, ⟨.slice none 0 0, rfl⟩, [], ⟨w, hw⟩, r⟩) = true from hm, cond_true] at hch
      rw [show ([((⟨w, hw⟩ : V1s), r)] : List Rw).map rwV = [[w]] from rfl] at hll ⊢
      have hi0 : (0 : Nat) < ([[w]] : List (List Value)).length := by simp
      have hi1 : ([[w]] : List (List Value))[0]? = some [w] := rfl
      repeat' (first | (refine go_Y ?_; intros) | (refine gs_Y ?_ ?_ <;> (intro hgd; try (simp only [Bool.not_true, Bool.not_false] at hgd))) | (refine gc_Y ?_ ?_ <;> intro _) | fail)
      refine cl_Y (hch) ?_
      intro _ _
      repeat' (first | (refine go_Y ?_; intros) | (refine gs_Y ?_ ?_ <;> (intro hgd; try (simp only [Bool.not_true, Bool.not_false] at hgd))) | (refine gc_Y ?_ ?_ <;> intro _) | fail)
      (refine rt_Y (y := (⟨1, tb, ⟨.slice none 0 0, rfl⟩, [], ⟨w, hw⟩, r⟩, P)) (hrs := Tryd.results20) (hv := ?_) (hφ := ?_))
      · rfl
      · exact ⟨hE, ⟨Vw.nil, hvr⟩, rfl⟩
    | false =>
    cases q4 : decide (kd = 4) with
    | true =>
      obtain rfl : kd = 4 := of_decide_eq_true q4
      obtain rfl : bf = [] := hnot bf (by simp [notE])
      obtain ⟨⟨⟨w, hw⟩, r⟩, rfl⟩ : ∃ x, rs = [x] := by
        match rs, hrs with
        | [x], _ => exact ⟨x, rfl⟩
        | [], h => simp [hasE] at h
        | _ :: _ :: _, h => simp [hasE] at h
      obtain rfl : r = af := by simpa [hasE] using hrs
      have hvr := hvw _ (List.mem_singleton.2 rfl)
      have hrz := hrl r (by simp [hasE])
      dsimp only at hvr
      have hch := evCheck_spec ⟨tx, k, nth, ⟨4, tb, ⟨.slice none 0 0, rfl⟩, [], ⟨w, hw⟩, r⟩⟩ P hUP ⟨Vw.nil, hvr⟩ (fun v hv => by simp at hv) hwa (by simp) hrz
      dsimp only [emV] at hch
      rw [show mayE k nth (Cm.c ⟨4, tb, ⟨.slice none 0 0, rfl⟩, [], ⟨w, hw⟩, r⟩) = true from hm, cond_true] at hch
      rw [show ([((⟨w, hw⟩ : V1s), r)] : List Rw).map rwV = [[w]] from rfl] at hll ⊢
      have hi0 : (0 : Nat) < ([[w]] : List (List Value)).length := by simp
      have hi1 : ([[w]] : List (List Value))[0]? = some [w] := rfl
      repeat' (first | (refine go_Y ?_; intros) | (refine gs_Y ?_ ?_ <;> (intro hgd; try (simp only [Bool.not_true, Bool.not_false] at hgd))) | (refine gc_Y ?_ ?_ <;> intro _) | fail)
      refine cl_Y (hch) ?_
      intro _ _
      repeat' (first | (refine go_Y ?_; intros) | (refine gs_Y ?_ ?_ <;> (intro hgd; try (simp only [Bool.not_true, Bool.not_false] at hgd))) | (refine gc_Y ?_ ?_ <;> intro _) | fail)
      (refine rt_Y (y := (⟨4, tb, ⟨.slice none 0 0, rfl⟩, [], ⟨w, hw⟩, r⟩, P)) (hrs := Tryd.results20) (hv := ?_) (hφ := ?_))
      · rfl
      · exact ⟨hE, ⟨Vw.nil, hvr⟩, rfl⟩
    | false =>
    cases q3 : decide (kd = 3) with
    | true =>
      obtain rfl : kd = 3 := of_decide_eq_true q3
      obtain rfl : af = [] := hnot af (by simp [notE])
      obtain ⟨⟨⟨w, hw⟩, r⟩, rfl⟩ : ∃ x, rs = [x] := by
        match rs, hrs with
        | [x], _ => exact ⟨x, rfl⟩
        | [], h => simp [hasE] at h
        | _ :: _ :: _, h => simp [hasE] at h
      obtain rfl : r = bf := by simpa [hasE] using hrs
      have hvr := hvw _ (List.mem_singleton.2 rfl)
      have hrz := hrl r (by simp [hasE])
      dsimp only at hvr
      have hch := evCheck_spec ⟨tx, k, nth, ⟨3, tb, ⟨w, hw⟩, r, ⟨.slice none 0 0, rfl⟩, []⟩⟩ P hUP ⟨hvr, Vw.nil⟩ hwb (fun v hv => by simp at hv) hrz (by simp)
      dsimp only [emV] at hch
      rw [show mayE k nth (Cm.c ⟨3, tb, ⟨w, hw⟩, r, ⟨.slice none 0 0, rfl⟩, []⟩) = true from hm, cond_true] at hch
      rw [show ([((⟨w, hw⟩ : V1s), r)] : List Rw).map rwV = [[w]] from rfl] at hll ⊢
      have hi0 : (0 : Nat) < ([[w]] : List (List Value)).length := by simp
      have hi1 : ([[w]] : List (List Value))[0]? = some [w] := rfl
      repeat' (first | (refine go_Y ?_; intros) | (refine gs_Y ?_ ?_ <;> (intro hgd; try (simp only [Bool.not_true, Bool.not_false] at hgd))) | (refine gc_Y ?_ ?_ <;> intro _) | fail)
      refine cl_Y (hch) ?_
      intro _ _
      repeat' (first | (refine go_Y ?_; intros) | (refine gs_Y ?_ ?_ <;> (intro hgd; try (simp only [Bool.not_true, Bool.not_false] at hgd))) | (refine gc_Y ?_ ?_ <;> intro _) | fail)
      (refine rt_Y (y := (⟨3, tb, ⟨w, hw⟩, r, ⟨.slice none 0 0, rfl⟩, []⟩, P)) (hrs := Tryd.results20) (hv := ?_) (hφ := ?_))
      · rfl
      · exact ⟨hE, ⟨hvr, Vw.nil⟩, rfl⟩
    | false =>
      obtain rfl : kd = 2 := by
        have := of_decide_eq_false q1; have := of_decide_eq_false q4; have := of_decide_eq_false q3; omega
      obtain ⟨⟨⟨w, hw⟩, r⟩, ⟨⟨w', hw'⟩, r'⟩, rfl⟩ : ∃ x y, rs = [x, y] := by
        match rs, hrs with
        | [x, y], _ => exact ⟨x, y, rfl⟩
        | [], h => simp [hasE] at h
        | [_], h => simp [hasE] at h
        | _ :: _ :: _ :: _, h => simp [hasE] at h
      obtain ⟨rfl, rfl⟩ : r = bf ∧ r' = af := by simpa [hasE] using hrs
      have hvr := hvw (⟨w, hw⟩, r) (by simp)
      have hvr' := hvw (⟨w', hw'⟩, r') (by simp)
      have hrz := hrl r (by simp [hasE])
      have hrz' := hrl r' (by simp [hasE])
      dsimp only at hvr hvr'
      refine ops_learn (VwIn.slice (VwIn.there (VwIn.there (VwIn.here hvr)))) ?_
      rintro ⟨pw, cw, rfl⟩
      refine ops_learn (VwIn.slice (VwIn.there (VwIn.there (VwIn.here hvr')))) ?_
      rintro ⟨pw', cw', rfl⟩
      have hch := evCheck_spec ⟨tx, k, nth, ⟨2, tb, ⟨.slice pw (r.map valV).length cw, hw⟩, r, ⟨.slice pw' (r'.map valV).length cw', hw'⟩, r'⟩⟩ P hUP ⟨hvr, hvr'⟩ hwb hwa hrz hrz'
      dsimp only [emV] at hch
      rw [show mayE k nth (Cm.c ⟨2, tb, ⟨.slice pw (r.map valV).length cw, hw⟩, r, ⟨.slice pw' (r'.map valV).length cw', hw'⟩, r'⟩) = true from hm, cond_true] at hch
      rw [show ([((⟨.slice pw (r.map valV).length cw, hw⟩ : V1s), r), ((⟨.slice pw' (r'.map valV).length cw', hw'⟩ : V1s), r')] : List Rw).map rwV = [[.slice pw (r.map valV).length cw], [.slice pw' (r'.map valV).length cw']] from rfl] at hll ⊢
      have hi0 : (0 : Nat) < ([[.slice pw (r.map valV).length cw], [.slice pw' (r'.map valV).length cw']] : List (List Value)).length := by simp
      have hi1 : ([[.slice pw (r.map valV).length cw], [.slice pw' (r'.map valV).length cw']] : List (List Value))[0]? = some [.slice pw (r.map valV).length cw] := rfl
      have hi2 : (1 : Nat) < ([[.slice pw (r.map valV).length cw], [.slice pw' (r'.map valV).length cw']] : List (List Value)).length := by simp
      have hi3 : ([[.slice pw (r.map valV).length cw], [.slice pw' (r'.map valV).length cw']] : List (List Value))[1]? = some [.slice pw' (r'.map valV).length cw'] := rfl
      repeat' (first | (refine go_Y ?_; intros) | (refine gs_Y ?_ ?_ <;> (intro hgd; try (simp only [Bool.not_true, Bool.not_false] at hgd))) | (refine gc_Y ?_ ?_ <;> intro _) | fail)
      refine ok_drawL (cv := []) [8] ([row 49 1 (.slice (some ⟨p, 0, none⟩) ([[.slice pw (r.map valV).length cw], [.slice pw' (r'.map valV).length cw']] : List (List Value)).length cp) [[.slice pw (r.map valV).length cw], [.slice pw' (r'.map valV).length cw']]]) (takeD) (by kernel_rfl) rfl (by decide +kernel) ?_
      repeat' (first | (refine go_Y ?_; intros) | (refine gs_Y ?_ ?_ <;> (intro hgd; try (simp only [Bool.not_true, Bool.not_false] at hgd))) | (refine gc_Y ?_ ?_ <;> intro _) | fail)
      refine cl_Y (hch) ?_
      intro _ _
      repeat' (first | (refine go_Y ?_; intros) | (refine gs_Y ?_ ?_ <;> (intro hgd; try (simp only [Bool.not_true, Bool.not_false] at hgd))) | (refine gc_Y ?_ ?_ <;> intro _) | fail)
      (refine rt_Y (y := (⟨2, tb, ⟨.slice pw (r.map valV).length cw, hw⟩, r, ⟨.slice pw' (r'.map valV).length cw', hw'⟩, r'⟩, P)) (hrs := Tryd.results20) (hv := ?_) (hφ := ?_))
      · rfl
      · exact ⟨hE, ⟨hvr, hvr'⟩, rfl⟩
end Go.Proofs.YtphaegcoldpclaaDoor
