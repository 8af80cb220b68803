/- Texts merged: RnS RnP RnB. -/
import Derived.Test.YtadgdikijdmceaaGreatFrR
import Derived.Test.YtadgdikijdmceaaGreatG9
import Derived.Test.YtadgdikijdmceaaGreatG1
import Derived.Test.YtadgdikijdmceaaGreatMnS
import Derived.Test.YtadgdikijdmceaaGreatG8
import Derived.Test.YtadgdikijdmceaaGreatG3
set_option linter.unusedVariables false
namespace Go.Proofs.YtadgdikijdmceaaGreat
open Go Go.Fx Go.Pl

theorem fold_inj : ∀ (l : List UInt8) {c c' : BitVec 32}, l.foldl stepB c = l.foldl stepB c' → c = c'
  | [], _, _, h => h
  | x :: l, _, _, h => stepB_inj (fold_inj l h)
theorem sumS_diff {s t : BA} {a b : List UInt8} {x y : UInt8} (hs : bl s = a ++ x :: b) (ht : bl t = a ++ y :: b) (hxy : x ≠ y) : sumS s ≠ sumS t := by
  intro h
  unfold sumS at h
  have ls : (bl s).length = s.size := bl_len s
  have lt : (bl t).length = t.size := bl_len t
  rw [show s.data.toList = bl s from rfl, show t.data.toList = bl t from rfl, sumL_fold _ _ (by omega), sumL_fold _ _ (by omega), List.take_of_length_le (by omega), List.take_of_length_le (by omega), xor_u32, xor_u32, B32_toNat, B32_toNat] at h
  have h1 : (B32 (if IntKind.u32.signed then -1 else IntKind.u32.max) ^^^ (bl s).foldl stepB 4294967295#32) = (B32 (if IntKind.u32.signed then -1 else IntKind.u32.max) ^^^ (bl t).foldl stepB 4294967295#32) := BitVec.eq_of_toNat_eq (by exact_mod_cast h)
  rw [BitVec.xor_comm, BitVec.xor_comm (B32 _)] at h1
  have h2 := xor_inj h1
  rw [hs, ht, List.foldl_append, List.foldl_append, List.foldl_cons, List.foldl_cons] at h2
  exact hxy (stepB_byte (fold_inj b h2))

def nat4 : List UInt8 → Nat
  | [] => 0
  | x :: l => x.toNat + 256 * nat4 l
theorem nat4_inj : ∀ {a b : List UInt8}, a.length = b.length → nat4 a = nat4 b → a = b
  | [], [], _, _ => rfl
  | [], _ :: _, h, _ => by simp at h
  | _ :: _, [], h, _ => by simp at h
  | x :: a, y :: b, hl, h => by
    simp only [nat4] at h
    have hx := x.toNat_lt
    have hy := y.toNat_lt
    have h1 : x.toNat = y.toNat := by omega
    have h2 : nat4 a = nat4 b := by omega
    rw [UInt8.toNat_inj.1 h1, nat4_inj (by simpa using hl) h2]
theorem nat4_lt : ∀ a : List UInt8, nat4 a < 256 ^ a.length
  | [] => by simp [nat4]
  | x :: a => by
    have := nat4_lt a
    have hx := x.toNat_lt
    simp only [nat4, List.length_cons, Nat.pow_succ]
    omega
theorem byteN_nat4 : ∀ (a : List UInt8) (k : Nat) (h : k < a.length), byteN (nat4 a) k = a[k]
  | [], k, h => by simp at h
  | x :: a, 0, h => by
    apply UInt8.toNat_inj.1
    have hx := x.toNat_lt
    simp only [byteN, nat4, Nat.mul_zero, Nat.pow_zero, Nat.div_one, List.getElem_cons_zero]
    simp
  | x :: a, k + 1, h => by
    have ih := byteN_nat4 a k (by simpa using h)
    rw [List.getElem_cons_succ, ← ih]
    apply UInt8.toNat_inj.1
    have hx := x.toNat_lt
    unfold byteN
    simp only [nat4]
    have e : (x.toNat + 256 * nat4 a) / 2 ^ (8 * (k + 1)) = nat4 a / 2 ^ (8 * k) := by
      rw [show 8 * (k + 1) = 8 + 8 * k by omega, Nat.pow_add, ← Nat.div_div_eq_div_mul]
      congr 1
      omega
    rw [e]
theorem putL_nat4 (a : List UInt8) : putL (nat4 a) a.length = a := by
  apply List.ext_getElem?
  intro i
  unfold putL
  by_cases h : i < a.length
  · simp [h, byteN_nat4 a i h]
  · simp [h]
theorem getU_nat4 (s : BA) (h : s.size = 4) : getU s = (nat4 (bl s) : Int) := by
  have hl : (bl s).length = 4 := by rw [bl_len]; exact h
  have h1 := nat4_lt (bl s)
  rw [hl] at h1
  have h2 := put4_get (nat4 (bl s)) (by simpa using h1)
  have h3 : put4 (nat4 (bl s)) = s := by
    apply bl_inj
    show putL (nat4 (bl s)) 4 = bl s
    have := putL_nat4 (bl s)
    rw [hl] at this
    exact this
  rw [h3] at h2
  exact h2

structure Diff (s t : BA) (i : Nat) : Prop where
  ex : ∃ a b x y, bl s = a ++ x :: b ∧ bl t = a ++ y :: b ∧ x ≠ y ∧ a.length = i
theorem Diff.size {s t : BA} {i : Nat} (h : Diff s t i) : s.size = t.size ∧ i < s.size := by
  obtain ⟨a, b, x, y, h1, h2, _, h4⟩ := h.ex
  have e1 := bl_len s
  have e2 := bl_len t
  rw [h1] at e1
  rw [h2] at e2
  simp only [List.length_append, List.length_cons] at e1 e2
  omega
theorem Diff.out {s t : BA} {i : Nat} (h : Diff s t i) {n m : Nat} (ho : i < n ∨ m ≤ i) : s.extract n m = t.extract n m := by
  obtain ⟨a, b, x, y, h1, h2, _, h4⟩ := h.ex
  apply bl_inj
  rw [bl_ext, bl_ext, h1, h2]
  rcases ho with ho | ho
  · congr 1
    have e : ∀ z : UInt8, (a ++ z :: b).drop n = b.drop (n - (i + 1)) := by
      intro z
      rw [List.drop_append, List.drop_of_length_le (by omega), List.nil_append, show n - a.length = (n - (i + 1)) + 1 by omega, List.drop_succ_cons]
    rw [e, e]
  · by_cases hnm : m ≤ n
    · rw [show m - n = 0 by omega]; simp
    · have e : ∀ z : UInt8, ((a ++ z :: b).drop n).take (m - n) = (a.drop n).take (m - n) := by
        intro z
        rw [List.drop_append, List.take_append]
        rw [List.length_drop, show m - n - (a.length - n) = 0 by omega]
        simp
      rw [e, e]
theorem Diff.inn {s t : BA} {i : Nat} (h : Diff s t i) {n m : Nat} (h1 : n ≤ i) (h2 : i < m) : Diff (s.extract n m) (t.extract n m) (i - n) := by
  obtain ⟨a, b, x, y, e1, e2, hxy, h4⟩ := h.ex
  refine ⟨a.drop n, b.take (m - (i + 1)), x, y, ?_, ?_, hxy, by rw [List.length_drop, h4]⟩
  all_goals
    rw [bl_ext]
    first | rw [e1] | rw [e2]
    rw [List.drop_append, show n - a.length = 0 by omega, List.drop_zero, List.take_append, List.take_of_length_le (by rw [List.length_drop]; omega), List.length_drop, show m - n - (a.length - n) = (m - (i + 1)) + 1 by omega, List.take_succ_cons]
theorem Diff.sum {s t : BA} {i : Nat} (h : Diff s t i) : sumS s ≠ sumS t := by
  obtain ⟨a, b, x, y, h1, h2, h3, _⟩ := h.ex
  exact sumS_diff h1 h2 h3
theorem Diff.getU {s t : BA} {i : Nat} (h : Diff s t i) (hz : s.size = 4) : getU s ≠ getU t := by
  have hs := h.size.1
  obtain ⟨a, b, x, y, h1, h2, h3, _⟩ := h.ex
  rw [getU_nat4 s hz, getU_nat4 t (by omega)]
  intro e
  have : bl s = bl t := nat4_inj (by rw [bl_len, bl_len]; exact hs) (by exact_mod_cast e)
  rw [h1, h2] at this
  have := List.append_cancel_left this
  simp only [List.cons.injEq] at this
  exact h3 this.1

theorem next_diff {s t u : BA} {i : Nat} (hs : s.size ≤ 4194304) (h : Diff (frameOf s ++ t) u i) (hi : i < 12 + s.size) : (nextF u).2 = 71 := by
  obtain ⟨p1, p2, p3, p4, _⟩ := frameOf_parts s t
  have g1 := put4_get s.size (by omega)
  have g2 := put4_get (sumN (put4 s.size)) (sumN_eq _).2
  have g3 := put4_get (sumN s) (sumN_eq _).2
  have hz : (frameOf s ++ t).size = 12 + s.size + t.size := by rw [ByteArray.size_append, frameOf_size]
  have hsz := h.size.1
  have z4 : ∀ n : Nat, n + 4 ≤ 12 → ((frameOf s ++ t).extract n (n + 4)).size = 4 := fun n hn => by rw [ByteArray.size_extract]; omega
  unfold nextF
  rw [if_neg (by omega)]
  by_cases h1 : i < 4
  · have e2 : u.extract 4 8 = put4 (sumN (put4 s.size)) := by rw [← p2]; exact (h.out (.inl h1)).symm
    have hd := (h.inn (n := 0) (m := 4) (by omega) h1).sum
    rw [p1] at hd
    rw [if_pos]
    left
    rw [e2, g2]
    intro e
    rw [← (sumN_eq (put4 s.size)).1] at e
    exact hd e.symm
  · have e1 : u.extract 0 4 = put4 s.size := by rw [← p1]; exact (h.out (.inr (by omega))).symm
    by_cases h2 : i < 8
    · have hd := (h.inn (n := 4) (m := 8) (by omega) h2).getU (z4 4 (by omega))
      rw [p2, g2] at hd
      rw [if_pos]
      left
      rw [e1, (sumN_eq (put4 s.size)).1]
      exact hd
    · have e2 : u.extract 4 8 = put4 (sumN (put4 s.size)) := by rw [← p2]; exact (h.out (.inr (by omega))).symm
      rw [e1, e2, g1, g2, (sumN_eq (put4 s.size)).1, if_neg (by simp; omega), if_neg (by omega)]
      have hn : (12 + (s.size : Int)).toNat = 12 + s.size := by omega
      rw [hn]
      by_cases h3 : i < 12
      · have hd := (h.inn (n := 8) (m := 12) (by omega) h3).getU (z4 8 (by omega))
        rw [p3, g3] at hd
        have e4 : u.extract 12 (12 + s.size) = s := by
          have := h.out (n := 12) (m := 12 + s.size) (.inl h3)
          rw [p4] at this
          exact this.symm
        rw [e4]
        rw [(sumN_eq s).1]
        generalize getU (u.extract 8 12) = gg at hd
        rw [if_pos hd]
      · have e3 : u.extract 8 12 = put4 (sumN s) := by rw [← p3]; exact (h.out (.inr (by omega))).symm
        have hd := (h.inn (n := 12) (m := 12 + s.size) (by omega) hi).sum
        rw [p4] at hd
        rw [e3, g3, if_pos]
        intro e
        rw [← (sumN_eq s).1] at e
        exact hd e.symm

theorem scan_71 {b : BA} (h0 : b.size ≠ 0) (h : (nextF b).2 = 71) : scanOf b = ([], 0, 71) := by
  unfold scanOf
  obtain ⟨k, hk⟩ : ∃ k, b.size = k + 1 := ⟨b.size - 1, by omega⟩
  rw [hk]
  unfold scanF
  rw [if_neg h0, if_pos (by rw [h]; decide), h]
theorem ext_split (u : BA) (n : Nat) (h : n ≤ u.size) : u = u.extract 0 n ++ u.extract n u.size := by
  apply bl_inj
  rw [bl_app, bl_ext, bl_ext, List.drop_zero, Nat.sub_zero]
  rw [List.take_of_length_le (i := u.size - n) (by rw [List.length_drop, bl_len]; omega), List.take_append_drop]
theorem scan_diff : ∀ (l : List BA) {u : BA} {i : Nat}, allOk l = true → Diff (framesOf l) u i → (scanOf u).2.2 = 71
  | [], u, i, _, h => by
    have := h.size.2
    have e : (framesOf []).size = 0 := rfl
    omega
  | s :: l, u, i, hl, h => by
    simp only [allOk, List.all_cons, Bool.and_eq_true, decide_eq_true_eq] at hl
    have h' : Diff (frameOf s ++ framesOf l) u i := h
    have hz : (frameOf s ++ framesOf l).size = 12 + s.size + (framesOf l).size := by rw [ByteArray.size_append, frameOf_size]
    have hsz := h'.size
    rcases Nat.lt_or_ge i (12 + s.size) with hi | hi
    · rw [scan_71 (by omega) (next_diff hl.1 h' hi)]
    · have e1 : u.extract 0 (12 + s.size) = frameOf s := by
        rw [← h'.out (n := 0) (m := 12 + s.size) (.inr hi)]
        exact ext_left _ _ (by rw [frameOf_size])
      have e2 : Diff (framesOf l) (u.extract (12 + s.size) u.size) (i - (12 + s.size)) := by
        have := h'.inn (n := 12 + s.size) (m := u.size) hi (by omega)
        rw [← hsz.1, (frameOf_parts s (framesOf l)).2.2.2.2, hsz.1] at this
        exact this
      have e3 : u = frameOf s ++ u.extract (12 + s.size) u.size := by
        have := ext_split u (12 + s.size) (by omega)
        rw [e1] at this
        exact this
      have ih := scan_diff l hl.2 e2
      rw [e3, scanOf_frame _ _ hl.1]
      exact ih
end Go.Proofs.YtadgdikijdmceaaGreat
set_option linter.unusedVariables false
namespace Go.Proofs.YtadgdikijdmceaaGreat
open Go Go.Fx Go.Pl

def okP (p : Pr) : Bool := decide (1 ≤ p.k.size) && decide (p.k.size ≤ 512) && decide (p.v.size ≤ 262144) && (!p.g || p.v.toList == [])
def put2 (n : Nat) : BA := ⟨(putL n 2).toArray⟩
def flagB (g : Bool) : BA := if g then ⟨#[1]⟩ else ⟨#[0]⟩
def txtR (p : Pr) : BA := flagB p.g ++ put2 p.k.size ++ p.k ++ p.v
def runL (l : List Pr) : List BA := put8 (l.length : Int) :: l.map txtR
def runB (l : List Pr) : BA := framesOf (runL l)
def riseB : List Pr → Bool
  | [] => true
  | [_] => true
  | p :: q :: l => ltS p.k q.k && riseB (q :: l)
def chkR (l : List Pr) : Int := if l.all okP then (if riseB l then 0 else 100) else 2

structure En where
  p : Pr
  at_ : Nat
  sz : Nat
def entsF (at_ : Nat) : List Pr → List En
  | [] => []
  | p :: l => ⟨p, at_, 12 + (txtR p).size⟩ :: entsF (at_ + (12 + (txtR p).size)) l
def ents (l : List Pr) : List En := entsF 20 l
end Go.Proofs.YtadgdikijdmceaaGreat
set_option linter.unusedSimpArgs false
set_option linter.unusedVariables false
set_option maxRecDepth 100000
namespace Go.Proofs.YtadgdikijdmceaaGreat
open Go Go.Fx Go.Proofs Go.Pl

def enV (e : En) : List Value := [.string e.p.k, .string e.p.v, .bool e.p.g, .int .i64 e.at_, .int .i64 e.sz]

theorem dsize_spec (b : Nat) (d : Dk) (nm : BA) (hn : nm.size ≤ 4611686018427387904) :
    FSpec Tryz.prog 21 [.pointer (some ⟨b, 0, none⟩), .string nm] [diskP b d] Unit (fun _ => True) (fun _ => .tuple #[.int .i64 (if (d.read nm 0 0).2 = 0 then ((ftext nm d.files).size : Int) else 0), .int .i64 (d.read nm 0 0).2]) (fun _ => [diskP b d]) := by
  have hr := read_spec b d nm 0 0 hn
  generalize d.read nm 0 0 = r at hr
  obtain ⟨s, e⟩ := r
  dsimp only at hr ⊢
  cases t1 : (!decide (e = 0)) with
  | true =>
    have h0 : ¬ e = 0 := by simpa using t1
    rw [if_neg h0]
    refine spec_intro [] _ Tryz.func21 rfl Tryz.ntmps21 (by rfl) (fun w0 R => ?_)
    repeat' (first | (refine go_Z ?_; intros) | (refine gs_Z ?_ ?_ <;> (intro hgd; try (simp only [Bool.not_true, Bool.not_false] at hgd))) | (refine gc_Z ?_ ?_ <;> intro _) | fail)
    refine cl_Z (hr) ?_
    intro _ _
    repeat' (first | (refine go_Z ?_; intros) | (refine gs_Z ?_ ?_ <;> (intro hgd; try (simp only [Bool.not_true, Bool.not_false] at hgd))) | (refine gc_Z ?_ ?_ <;> intro _) | fail)
    (refine rt_Z (y := ()) (hrs := Tryz.results21) (hv := ?_) (hφ := ?_))
    · rfl
    · trivial
  | false =>
    have h0 : e = 0 := by simpa using t1
    subst h0
    rw [if_pos rfl]
    refine spec_intro [] _ Tryz.func21 rfl Tryz.ntmps21 (by rfl) (fun w0 R => ?_)
    repeat' (first | (refine go_Z ?_; intros) | (refine gs_Z ?_ ?_ <;> (intro hgd; try (simp only [Bool.not_true, Bool.not_false] at hgd))) | (refine gc_Z ?_ ?_ <;> intro _) | fail)
    refine cl_Z (hr) ?_
    intro _ _
    repeat' (first | (refine ro_Z ?_; intros) | fail)
    refine cont_then (ok_seq (ok_region ?_))
    repeat' (first | (refine ro_Z ?_; intros) | fail)
    refine cont_then (ok_cond_false ?_ (ok_skip ?_))
    · ((conv => lhs; whnf); first | done | with_reducible rfl | (refine congrArg Value.bool ?_; with_reducible assumption))
    refine cont_then ?_
    (refine ok_ex selD ?_)
    rintro ⟨⟨m1, m2, v, vs⟩, hv, hvs⟩
    dsimp only [diskL]
    dsimp only at hv hvs
    have hg := getK_encF nm d.files
    cases hf : fget nm d.files with
    | none =>
      have ht : ftext nm d.files = ⟨#[]⟩ := by unfold ftext; rw [hf]; rfl
      rw [hf] at hg
      simp only [Option.map_none] at hg
      rw [ht]
      repeat' (first | (refine go_Z ?_; intros) | (refine gs_Z ?_ ?_ <;> (intro hgd; try (simp only [Bool.not_true, Bool.not_false] at hgd))) | (refine gc_Z ?_ ?_ <;> intro _) | fail)
      refine cont_map (fun _ h => disk_in (b := b) (m1 := m1) (m2 := m2) (d := d) (v := v) (vs := vs) hv hvs (Take.out takeD h)) ?_
      (refine rt_Z (y := ()) (hrs := Tryz.results21) (hv := ?_) (hφ := ?_))
      · rfl
      · trivial
    | some t =>
      have ht : ftext nm d.files = t := by unfold ftext; rw [hf]; rfl
      rw [hf] at hg
      simp only [Option.map_some] at hg
      rw [ht]
      repeat' (first | (refine go_Z ?_; intros) | (refine gs_Z ?_ ?_ <;> (intro hgd; try (simp only [Bool.not_true, Bool.not_false] at hgd))) | (refine gc_Z ?_ ?_ <;> intro _) | fail)
      refine cont_map (fun _ h => disk_in (b := b) (m1 := m1) (m2 := m2) (d := d) (v := v) (vs := vs) hv hvs (Take.out takeD h)) ?_
      (refine rt_Z (y := ()) (hrs := Tryz.results21) (hv := ?_) (hφ := ?_))
      · rfl
      · trivial

end Go.Proofs.YtadgdikijdmceaaGreat
