/- A run in whose text one byte is another one, in plain Lean: which entries are hit, what a scan tells; how its entries are read. -/
import Derived.Test.YtgmobpngcilgjaaRnS
import Derived.Test.YtgmobpngcilgjaaRnT
set_option linter.unusedVariables false
namespace Go.Proofs.Ytgmobpngcilgjaa
open Go Go.Fx Go.Pl

def hitB (off : Nat) (x : En) : Bool := decide (x.at_ ≤ off) && decide (off < x.at_ + x.sz)
def rdB (off : Nat) (x : En) : Pr × Int := if hitB off x = true then (pr0, 71) else (x.p, 0)
def hits (off : Nat) (l : List En) : Nat := l.countP (hitB off)

theorem count_le1 {α : Type} (p : α → Bool) : ∀ {l : List α}, l.Pairwise (fun x y => ¬ (p x = true ∧ p y = true)) → l.countP p ≤ 1
  | [], _ => by simp
  | x :: l, h => by
    rw [List.pairwise_cons] at h
    rw [List.countP_cons]
    by_cases hx : p x = true
    · have : l.countP p = 0 := by
        rw [List.countP_eq_zero]
        exact fun y hy hp => h.1 y hy ⟨hx, hp⟩
      rw [this]; split <;> omega
    · have := count_le1 p h.2
      rw [if_neg hx]; omega
theorem ents_len (l : List Pr) : (ents l).length = l.length := entsF_len l 20
theorem ents_at (l : List Pr) (i : Nat) (h : i < (ents l).length) : ∃ h' : i < l.length, (ents l)[i] = ⟨l[i], lenT ((runL l).take (i + 1)), 12 + (txtR l[i]).size⟩ := by
  have h' : i < l.length := by rw [ents_len] at h; exact h
  refine ⟨h', ?_⟩
  have := ents_get l i h'
  rw [List.getElem?_eq_getElem h] at this
  exact Option.some.inj this
theorem ents_next (l : List Pr) {i j : Nat} (hij : i < j) (hj : j < (ents l).length) : (ents l)[i].at_ + (ents l)[i].sz ≤ (ents l)[j].at_ := by
  obtain ⟨hi', ei⟩ := ents_at l i (by omega)
  obtain ⟨hj', ej⟩ := ents_at l j hj
  rw [ei, ej]
  dsimp only
  obtain ⟨h1, h2⟩ := runL_get l i hi'
  have h3 : lenT ((runL l).take (i + 1 + 1)) ≤ lenT ((runL l).take (j + 1)) := lenT_pre (List.take_prefix_take_left (by omega))
  rw [List.take_succ_eq_append_getElem h1, lenT_snoc, h2] at h3
  exact h3
theorem hits_le1 (off : Nat) (l : List Pr) : hits off (ents l) ≤ 1 := by
  refine count_le1 _ ?_
  rw [List.pairwise_iff_getElem]
  intro i j hi hj hij h
  have := ents_next l hij hj
  unfold hitB at h
  simp only [Bool.and_eq_true, decide_eq_true_eq] at h
  omega
theorem hits_take (off : Nat) (es : List En) (k : Nat) (hk : k < es.length) : hits off (es.take (k + 1)) = hits off (es.take k) + (if hitB off es[k] = true then 1 else 0) := by
  unfold hits
  rw [List.take_succ_eq_append_getElem hk, List.countP_append, List.countP_singleton]
theorem hits_take_le (off : Nat) (l : List Pr) (k : Nat) : hits off ((ents l).take k) ≤ 1 :=
  Nat.le_trans ((List.take_sublist _ _).countP_le) (hits_le1 off l)

/-! ### What a scan of it tells -/
theorem yR_same {off : Nat} {to : BA} : ∀ {l : List En}, (∀ x ∈ l, hitB off x = false) → yR (rdB off) to l = yR rdG to l
  | [], _ => rfl
  | x :: l, h => by
    have hx : rdB off x = rdG x := by unfold rdB; rw [if_neg (by rw [h x (List.mem_cons_self ..)]; decide)]; rfl
    unfold yR
    rw [hx, yR_same fun y hy => h y (List.mem_cons_of_mem _ hy)]
theorem end_nil (x : En) : endR ⟨#[]⟩ x = false := by unfold endR; simp
theorem yR_bad {off : Nat} : ∀ {l : List En}, (∃ x ∈ l, hitB off x = true) → ∃ ys, yR (rdB off) ⟨#[]⟩ l = ys ++ [(pr0, 71)] ∧ (∀ z ∈ ys, z.2 = 0) ∧ ys.length < l.length
  | [], h => by obtain ⟨x, hx, _⟩ := h; cases hx
  | x :: l, h => by
    unfold yR
    rw [end_nil]
    by_cases hx : hitB off x = true
    · have : rdB off x = (pr0, 71) := by unfold rdB; rw [if_pos hx]
      rw [this]
      exact ⟨[], by simp, by simp, by simp⟩
    · have e : rdB off x = (x.p, 0) := by unfold rdB; rw [if_neg hx]
      rw [e]
      obtain ⟨ys, h1, h2, h3⟩ := yR_bad (off := off) (l := l) (by
        obtain ⟨y, hy, hb⟩ := h
        rcases List.mem_cons.1 hy with rfl | hy
        · exact absurd hb hx
        · exact ⟨y, hy, hb⟩)
      refine ⟨(x.p, 0) :: ys, ?_, ?_, by simpa using h3⟩
      · rw [h1]; simp
      · intro z hz
        rcases List.mem_cons.1 hz with rfl | hz
        · rfl
        · exact h2 z hz
theorem eat_bad {most : Nat} {y : Pr × Int} (hy : y.2 ≠ 0) : ∀ (ys pre : List (Pr × Int)), (∀ z ∈ ys, z.2 = 0) → pre.length + ys.length < most → (eat (goR (most : Int)) pre (ys ++ [y])).1 = pre ++ (ys ++ [y])
  | [], pre, _, _ => by
    rw [List.nil_append]
    unfold eat
    have : goR (most : Int) (pre ++ [y]) = false := by unfold goR; rw [errR_snoc]; simp [hy]
    rw [this]; rfl
  | z :: ys, pre, h, hl => by
    rw [List.cons_append]
    unfold eat
    have : goR (most : Int) (pre ++ [z]) = true := by
      unfold goR
      rw [errR_snoc, h z (List.mem_cons_self ..)]
      simp only [List.length_cons] at hl
      simp; omega
    rw [this, if_pos rfl, eat_bad hy ys (pre ++ [z]) (fun w hw => h w (List.mem_cons_of_mem _ hw)) (by simp at hl ⊢; omega)]
    simp
theorem ltS_nil (a : BA) : ltS a ⟨#[]⟩ = false := by
  unfold ltS
  rw [show (⟨#[]⟩ : BA).toList = [] by decide +kernel]
  cases a.toList <;> rfl
theorem posR_nil (es : List En) : posR es ⟨#[]⟩ = 0 := by
  unfold posR
  cases es with
  | nil => rfl
  | cons x l => rw [List.takeWhile_cons, ltS_nil]; rfl
theorem scanR_all (l : List Pr) : scanR l ⟨#[]⟩ ⟨#[]⟩ (l.length + 1) = l := by
  unfold scanR
  have : l.filter (withB ⟨#[]⟩ ⟨#[]⟩) = l := by
    rw [List.filter_eq_self]
    intro p _
    unfold withB
    rw [ltS_nil]
    simp
  rw [this, List.take_of_length_le (by omega)]
theorem scan_spoilt {l : List Pr} (hs : Sorted l) (off : Nat) :
    errR (eat (goR ((l.length + 1 : Nat) : Int)) [] (yR (rdB off) ⟨#[]⟩ ((ents l).drop (posR (ents l) ⟨#[]⟩)))).1 = (if hits off (ents l) = 0 then 0 else 71) ∧
    colR (eat (goR ((l.length + 1 : Nat) : Int)) [] (yR (rdB off) ⟨#[]⟩ ((ents l).drop (posR (ents l) ⟨#[]⟩)))).1 = (if hits off (ents l) = 0 then l else []) := by
  by_cases h : hits off (ents l) = 0
  · rw [if_pos h, if_pos h]
    have h' : ∀ x ∈ ents l, hitB off x = false := by
      unfold hits at h
      rw [List.countP_eq_zero] at h
      intro x hx
      simpa using h x hx
    have hg := scan_good hs ⟨#[]⟩ ⟨#[]⟩ (l.length + 1) (by omega)
    rw [scanR_all] at hg
    rw [yR_same fun x hx => h' x (List.mem_of_mem_drop hx)]
    exact hg
  · rw [if_neg h, if_neg h, posR_nil, List.drop_zero]
    have h' : ∃ x ∈ ents l, hitB off x = true := by
      unfold hits at h
      rcases Classical.em (∃ x ∈ ents l, hitB off x = true) with hh | hh
      · exact hh
      · exact absurd (List.countP_eq_zero.2 fun x hx hp => hh ⟨x, hx, hp⟩) h
    obtain ⟨ys, h1, h2, h3⟩ := yR_bad h'
    rw [ents_len] at h3
    rw [h1, eat_bad (y := (pr0, 71)) (by decide) ys [] h2 (by simp; omega), List.nil_append]
    refine ⟨errR_snoc _ _, ?_⟩
    unfold colR
    rw [errR_snoc, if_pos (by decide)]

/-! ### How its entries are read -/
theorem reads_spoilt {room : Int} {nm t : BA} {off : Nat} (hm : mayN nm = true) {l : List Pr} (hok : ∀ p ∈ l, okP p = true) (hd : Diff (runB l) t off) (rb b : Nat) (v : Value) (sz : Int) (hn : nm.size ≤ 4611686018427387904) : ∀ x ∈ ents l,
    FSpec Try.prog 111 [.pointer (some ⟨rb, 0, none⟩), .agg (enV x).toArray] [rnP rb b nm v sz, diskP b (dR room nm t)] Unit (fun _ => True) (fun _ => .tuple #[.agg (prV (rdB off x).1).toArray, .int .i64 (rdB off x).2]) (fun _ => [rnP rb b nm v sz, diskP b (dR room nm t)]) := by
  intro x hx
  obtain ⟨i, hi, rfl⟩ := List.getElem_of_mem hx
  obtain ⟨hil, e⟩ := ents_at l i hi
  rw [e]
  obtain ⟨h', e'⟩ := runL_get l i hil
  have h1 := frames_at (runL l) (i + 1) h'
  have h2 := frames_fit (runL l) (i + 1) h'
  rw [e'] at h1 h2
  have hp := hok _ (List.getElem_mem hil)
  generalize l[i] = p at *
  generalize lenT ((runL l).take (i + 1)) = a at *
  have hz := txtR_small hp
  have hsz := hd.size
  have hrs : (runB l).size = lenT (runL l) := by unfold runB; rw [framesOf_size]
  have hr : (dR room nm t).read nm a (12 + (txtR p).size : Nat) = (t.extract a (a + (12 + (txtR p).size)), 0) := by
    rw [dR_read hm, cut_mid _ _ _ (by omega)]
  have hfz : (t.extract a (a + (12 + (txtR p).size))).size ≤ 1099511627776 := by rw [ByteArray.size_extract]; omega
  have h1' : (runB l).extract a (a + (12 + (txtR p).size)) = frameOf (txtR p) := h1
  by_cases hh : hitB off ⟨p, a, 12 + (txtR p).size⟩ = true
  · have hb := hh
    unfold hitB at hb
    simp only [Bool.and_eq_true, decide_eq_true_eq] at hb
    have hD := hd.inn (n := a) (m := a + (12 + (txtR p).size)) hb.1 hb.2
    rw [h1'] at hD
    have hD' : Diff (frameOf (txtR p) ++ ⟨#[]⟩) (t.extract a (a + (12 + (txtR p).size))) (off - a) := by rw [show frameOf (txtR p) ++ (⟨#[]⟩ : BA) = frameOf (txtR p) from by apply bl_inj; rw [bl_app]; exact List.append_nil _]; exact hD
    have hN := next_diff (by omega) hD' (by omega)
    have hS := scan_71 (by have := hD.size; omega) hN
    have hbad := rread_bad rb b nm v sz (dR room nm t) ⟨p, a, 12 + (txtR p).size⟩ _ hn hr (by rw [hS]; decide) hfz
    unfold rdB
    rw [if_pos hh]
    exact hbad
  · have hout : off < a ∨ a + (12 + (txtR p).size) ≤ off := by
      unfold hitB at hh
      simp only [Bool.and_eq_true, decide_eq_true_eq] at hh
      omega
    rw [← hd.out hout, h1'] at hr
    unfold rdB
    rw [if_neg hh]
    exact rread_good rb b nm v sz (dR room nm t) ⟨p, a, 12 + (txtR p).size⟩ _ hn hr (by rw [scan_frame _ (by omega)]) hp (by rw [frameOf_size]; omega)

/-! ### The byte that is turned -/
theorem flip_byte (c0 : UInt8) (bit : Nat) (h : bit ≤ 7) : ∃ c : UInt8, bitsOf .xor .u8 (c0.toNat : Int) (shiftOf .shl .u8 1 (bit : Int)) = (c.toNat : Int) ∧ c0 ≠ c := by
  have h0 : ∀ k : Fin 8, BitVec.ofInt 8 (shiftOf .shl .u8 1 ((k.1 : Nat) : Int)) ≠ 0#8 := by decide
  have h1 := h0 ⟨bit, by omega⟩
  dsimp only at h1
  have e : bitsOf .xor .u8 (c0.toNat : Int) (shiftOf .shl .u8 1 (bit : Int)) = ((BitVec.ofInt 8 (c0.toNat : Int) ^^^ BitVec.ofInt 8 (shiftOf .shl .u8 1 (bit : Int))).toNat : Int) := by
    show IntKind.u8.wrap _ = _
    have e4 : (2 : Int) ^ IntKind.u8.bits = 256 := rfl
    unfold IntKind.wrap
    simp only [e4]
    rw [if_neg (by simp [IntKind.signed])]
    have := (BitVec.ofInt 8 (c0.toNat : Int) ^^^ BitVec.ofInt 8 (shiftOf .shl .u8 1 (bit : Int))).isLt
    show (((BitVec.ofInt 8 (c0.toNat : Int) ^^^ BitVec.ofInt 8 (shiftOf .shl .u8 1 (bit : Int))).toNat : Nat) : Int) % 256 = _
    omega
  generalize BitVec.ofInt 8 (shiftOf .shl .u8 1 (bit : Int)) = s at *
  refine ⟨⟨BitVec.ofInt 8 (c0.toNat : Int) ^^^ s⟩, e, ?_⟩
  intro hc
  have hc' : c0.toBitVec = BitVec.ofInt 8 (c0.toNat : Int) ^^^ s := congrArg UInt8.toBitVec hc
  have hi : BitVec.ofInt 8 (c0.toNat : Int) = c0.toBitVec := by
    rw [BitVec.ofInt_natCast]
    apply BitVec.eq_of_toNat_eq
    rw [BitVec.toNat_ofNat]
    have := c0.toNat_lt
    show c0.toNat % 256 = c0.toNat
    omega
  rw [hi] at hc'
  apply h1
  have := congrArg (fun z : BitVec 8 => c0.toBitVec ^^^ z) hc'
  simpa [← BitVec.xor_assoc] using this.symm
theorem setB_diff {s : BA} {m : Nat} {c0 c : UInt8} (h : s.data.toList[m]? = some c0) (hc : c0 ≠ c) : Diff s (setB s m c) m := by
  obtain ⟨hm, e⟩ := List.getElem?_eq_some_iff.1 h
  refine ⟨(bl s).take m, (bl s).drop (m + 1), c0, c, ?_, ?_, hc, ?_⟩
  · have := List.take_append_drop m (bl s)
    rw [← this, List.take_append_drop]
    conv => lhs; rw [← List.take_append_drop m (bl s)]
    congr 1
    rw [← e]
    exact List.drop_eq_getElem_cons hm
  · show s.data.toList.set m c = _
    rw [List.set_eq_take_append_cons_drop, if_pos hm]
    rfl
  · rw [List.length_take]
    exact Nat.min_eq_left (Nat.le_of_lt hm)
end Go.Proofs.Ytgmobpngcilgjaa
