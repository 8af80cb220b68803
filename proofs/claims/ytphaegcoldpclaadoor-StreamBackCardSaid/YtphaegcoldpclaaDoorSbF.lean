import Derived.Test.YtphaegcoldpclaaDoorSbP
import Derived.Test.YtphaegcoldpclaaDoorStE
set_option linter.unusedSimpArgs false
set_option linter.unusedVariables false
namespace Go.Pl
open Go Go.Fx

theorem ofGo_app (tx : Int) (ts : List BA) (k : Nat) (a b : List Chg) (z : Ot) : ofGo tx ts k (a ++ b) z = ofGo tx ts (k + a.length) b (ofGo tx ts k a z) := by
  induction a generalizing k z with
  | nil => rfl
  | cons c a ih => rw [List.cons_append, ofGo, ih, ofGo, List.length_cons]; congr 1; omega
theorem ofGo_pre (tx : Int) (ts : List BA) (k : Nat) (l : List Chg) (z : Ot) : ∃ r, (ofGo tx ts k l z).outs = z.outs ++ r := by
  induction l generalizing k z with
  | nil => exact ⟨[], (List.append_nil _).symm⟩
  | cons c l ih =>
    obtain ⟨r, hr⟩ := ih (k + 1) (ofStep tx ts k c z)
    exact ⟨[_] ++ r, by rw [ofGo, hr]; show (z.outs ++ [_]) ++ r = _; rw [List.append_assoc]⟩
def zAt (s : Sc) (tx m : Int) (qs : List Int) (l : List Chg) (i : Nat) : Ot := ofGo tx (topicsS s) 0 (l.take i) (of0 tx m qs)
theorem zAt_succ {s : Sc} {tx m : Int} {qs : List Int} {l : List Chg} {i : Nat} (h : i < l.length) : zAt s tx m qs l (i + 1) = ofStep tx (topicsS s) i l[i] (zAt s tx m qs l i) := ofGo_step tx (topicsS s) h _
theorem zAt_end (s : Sc) (tx m : Int) (qs : List Int) (l : List Chg) : zAt s tx m qs l l.length = ofGo tx (topicsS s) 0 l (of0 tx m qs) := by unfold zAt; rw [List.take_length]
theorem zAt_ok {s : Sc} {tx m : Int} {qs : List Int} {l : List Chg} (h : mayOf s m qs l = true) (h0 : ∀ x ∈ qs, 0 ≤ x) {i : Nat} (hi : i ≤ l.length) : OtOk s.length i (zAt s tx m qs l i) := by
  unfold mayOf at h
  simp only [Bool.and_eq_true, List.all_eq_true, decide_eq_true_eq] at h
  obtain ⟨h1, h2, h3, h4⟩ := h
  have hz := ofGo_ok (tx := tx) (ts := topicsS s) (l := l.take i) (of0_ok (tx := tx) h2 h0) (fun c hc => by
    obtain ⟨a, b⟩ := h4 c (List.mem_of_mem_take hc)
    unfold mayE at b
    simp only [Bool.and_eq_true, Bool.not_eq_true', Bool.or_eq_false_iff, decide_eq_false_iff_not] at b
    exact ⟨by omega, by omega⟩)
  rw [List.length_take, Nat.min_eq_left hi] at hz
  exact hz
theorem outs_ev {s : Sc} {tx m : Int} {qs : List Int} {l : List Chg} {i : Nat} (h : i < l.length) (hz : (zAt s tx m qs l i).outs.length = i + 1) :
    (ofOuts s tx m qs l)[i + 1]? = some (gT (topicsS s) (l[i].table.toNat + 1), gI (zAt s tx m qs l i).seqs l[i].table.toNat + 1, putEB tx i (gI (zAt s tx m qs l i).counts l[i].table.toNat) l[i]) := by
  have e := ofGo_app tx (topicsS s) 0 (l.take (i + 1)) (l.drop (i + 1)) (of0 tx m qs)
  rw [List.take_append_drop] at e
  obtain ⟨r, hr⟩ := ofGo_pre tx (topicsS s) (0 + (l.take (i + 1)).length) (l.drop (i + 1)) (zAt s tx m qs l (i + 1))
  have e2 : (ofGo tx (topicsS s) 0 l (of0 tx m qs)).outs = (zAt s tx m qs l (i + 1)).outs ++ r := by rw [e]; exact hr
  have e3 : (zAt s tx m qs l (i + 1)).outs = (zAt s tx m qs l i).outs ++ [(gT (topicsS s) (l[i].table.toNat + 1), gI (zAt s tx m qs l i).seqs l[i].table.toNat + 1, putEB tx i (gI (zAt s tx m qs l i).counts l[i].table.toNat) l[i])] := by rw [zAt_succ h]; rfl
  show (_ ++ [_])[i + 1]? = _
  rw [e2, e3, List.append_assoc, List.append_assoc, List.getElem?_append_right (by omega), hz, Nat.sub_self]
  rfl
theorem outs_0 (s : Sc) (tx m : Int) (qs : List Int) (l : List Chg) : (ofOuts s tx m qs l)[0]? = some (marksT, m + 1, putMB 1 tx [] qs) := by
  obtain ⟨r, hr⟩ := ofGo_pre tx (topicsS s) 0 l (of0 tx m qs)
  show (_ ++ [_])[0]? = _
  rw [hr]
  rfl
theorem outs_end {s : Sc} {tx m : Int} {qs : List Int} {l : List Chg} (hz : (zAt s tx m qs l l.length).outs.length = l.length + 1) : (ofOuts s tx m qs l)[l.length + 1]? = some (marksT, m + 2, putMB 2 tx (zAt s tx m qs l l.length).counts (ofSeqs s tx m qs l)) := by
  rw [zAt_end] at hz ⊢
  show (_ ++ [_])[l.length + 1]? = _
  rw [List.getElem?_append_right (by omega), hz, Nat.sub_self]
  rfl
theorem seqs_end (s : Sc) (tx m : Int) (qs : List Int) (l : List Chg) : ofSeqs s tx m qs l = (zAt s tx m qs l l.length).seqs := by rw [zAt_end]; rfl
theorem at_begin {s : Sc} {tx m : Int} {qs : List Int} {l : List Chg} (h : mayOf s m qs l = true) (m0 : 0 ≤ m) (m1 : m + 2 ≤ 4611686018427387904) (h0 : ∀ x ∈ qs, 0 ≤ x) (t0 : 0 ≤ tx) (t1 : tx ≤ 18446744073709551615) :
    atS s (m + 1) (putMB 1 tx [] qs) = (m, ⟨1, tx, [], qs⟩, 0) := by
  have hz := zAt_ok (tx := tx) h h0 (i := 0) (by omega)
  unfold mayOf fitsP at h
  simp only [Bool.and_eq_true, List.all_eq_true, decide_eq_true_eq] at h
  obtain ⟨h1, ⟨h2, h3, h4⟩, h5⟩ := h
  obtain ⟨_, _, _, hl1, hl2⟩ := checkS_ok h1
  have hq : ∀ x ∈ qs, x ≤ 4611686018427387904 := fun x hx => by
    rw [Bool.not_eq_true', List.any_eq_false] at h4
    have := h4 x hx
    simp only [decide_eq_true_eq] at this
    omega
  have hg := getMK_put (k := 1) (tx := tx) (cs := []) (qs := qs) (by
    unfold mayMk wantM
    simp [sumOk]
    omega) t0 t1 (fun x hx => ⟨h0 x hx, by have := hq x hx; omega⟩)
  unfold atS
  rw [hg, h1, show decide (1 ≤ m + 1) = true by simp; omega, show decide (m + 1 ≤ 4611686018427387904) = true by simp; omega]
  simp only [Bool.true_and, cond_true]
  rw [if_pos ⟨trivial, by unfold fitsP; simp only [Bool.and_eq_true, decide_eq_true_eq]; exact ⟨h2, by omega, h4⟩⟩, if_pos trivial]
  simp
theorem at_end {s : Sc} {tx m : Int} {qs : List Int} {l : List Chg} (h : mayOf s m qs l = true) (m0 : 0 ≤ m) (m1 : m + 2 ≤ 4611686018427387904) (h0 : ∀ x ∈ qs, 0 ≤ x) (t0 : 0 ≤ tx) (t1 : tx ≤ 18446744073709551615) (hs : ∀ x ∈ ofSeqs s tx m qs l, x ≤ 4611686018427387904) :
    atS s (m + 2) (putMB 2 tx (zAt s tx m qs l l.length).counts (ofSeqs s tx m qs l)) = (m + 2, ⟨2, tx, (zAt s tx m qs l l.length).counts, ofSeqs s tx m qs l⟩, 0) := by
  have hz := zAt_ok (tx := tx) h h0 (i := l.length) (Nat.le_refl _)
  rw [seqs_end] at hs ⊢
  unfold mayOf fitsP at h
  simp only [Bool.and_eq_true, List.all_eq_true, decide_eq_true_eq] at h
  obtain ⟨h1, ⟨h2, h3, h4⟩, h5, h6⟩ := h
  obtain ⟨_, _, _, hl1, hl2⟩ := checkS_ok h1
  have hlen := hz.sl
  have hlc := hz.cl
  have hg := getMK_put (k := 2) (tx := tx) (cs := (zAt s tx m qs l l.length).counts) (qs := (zAt s tx m qs l l.length).seqs) (by
    unfold mayMk wantM
    rw [sumOk_of 0 (fun x hx => (hz.cs x hx).1) (by rw [hz.sum]; omega)]
    simp [hlen, hlc]
    omega) t0 t1 (fun x hx => ⟨(hz.sq x hx).1, by have := hs x hx; omega⟩)
  unfold atS
  rw [hg, h1, show decide (1 ≤ m + 2) = true by simp; omega, show decide (m + 2 ≤ 4611686018427387904) = true by simp; omega]
  simp only [Bool.true_and, cond_true]
  rw [if_pos ⟨trivial, by
    unfold fitsP
    simp only [Bool.and_eq_true, decide_eq_true_eq]
    refine ⟨hlen, by omega, ?_⟩
    rw [Bool.not_eq_true', List.any_eq_false]
    intro x hx
    have := hs x hx
    simp only [decide_eq_true_eq]
    omega⟩, if_neg (by decide)]
end Go.Pl
namespace Go.Pl
open Go Go.Fx
theorem ofOuts_len' (s : Sc) (tx m : Int) (qs : List Int) (l : List Chg) : (ofOuts s tx m qs l).length = l.length + 2 := by
  have key : ∀ (l : List Chg) (k : Nat) (z : Ot), (ofGo tx (topicsS s) k l z).outs.length = z.outs.length + l.length := by
    intro l
    induction l with
    | nil => intro k z; rfl
    | cons a l ih =>
      intro k z
      rw [ofGo, ih]
      show (z.outs ++ [_]).length + _ = _
      rw [List.length_append, List.length_cons, List.length_cons, List.length_nil]; omega
  show (_ ++ [_]).length = _
  rw [List.length_append, key]
  show 1 + l.length + 1 = _
  omega
end Go.Pl
