/- Texts merged: RnQ RnR RnI. -/
import Derived.Test.YtgmobpngcilgjaaRnZ
/- Runs, in plain Lean: what a disk has of one, written and read. -/
set_option linter.unusedVariables false
namespace Go.Proofs.Ytgmobpngcilgjaa
open Go Go.Fx Go.Pl

/-- A disk with one file, all sure. -/
def dR (room : Int) (nm t : BA) : Dk := ⟨[(nm, t)], [(nm, t)], [], room, -1, false⟩
theorem dR_ok {room : Int} {nm t : BA} (h0 : 0 ≤ room) (h1 : room ≤ 16777216) (ht : t.size ≤ 16777216) : (dR room nm t).Ok where
  room0 := h0
  roomM := h1
  fuse0 := by simp [dR]
  fuseM := by simp [dR]
  used := by simp [dR, fused]; exact ht
  play := rfl
  seq := trivial
  nd := by simp [dR]
  nds := by simp [dR]
  few k := by simp [dR, Pl.play, fused]; exact ht
theorem dR_text (room : Int) (nm t : BA) : ftext nm (dR room nm t).files = t := by simp [dR, ftext, fget]
theorem dR_has (room : Int) (nm t : BA) : (dR room nm t).has nm = true := by simp [dR, Dk.has, fget]
theorem dR_live {nm : BA} (hm : mayN nm = true) (room : Int) (t : BA) : (dR room nm t).live [nm] = 0 := by rw [live1 _ hm]; rfl
theorem dR_read {nm : BA} (hm : mayN nm = true) (room : Int) (t : BA) (off n : Nat) : (dR room nm t).read nm off n = (cut t off n, 0) := by
  unfold Dk.read
  rw [dR_live hm]
  simp only [ne_eq, not_true_eq_false, if_false, dR_has, Bool.not_true, Bool.false_eq_true, dR_text]
  rw [if_neg (by omega)]

theorem write_new {room : Int} {nm : BA} {l : List Pr} (h0 : 0 ≤ room) (hm : mayN nm = true) (hc : chkR l = 0) (hz : ((runB l).size : Int) ≤ room) : writeR (newD room) nm l = (dR room nm (runB l), 0) := by
  have hl : (newD room).live [nm] = 0 := by rw [live1 _ hm]; rfl
  have hr : (newD room).read nm 0 0 = (⟨#[]⟩, 3) := by
    unfold Dk.read
    rw [hl]; rfl
  have ha : (newD room).append nm (runB l) = ({ newD room with files := [(nm, runB l)], loose := [.app nm (runB l)] }, 0) := by
    unfold Dk.append
    rw [hl]
    simp only [ne_eq, not_true_eq_false, if_false]
    have hd : decide ((newD room).room < (fused (newD room).files : Int) + (runB l).size) = false := by
      rw [decide_eq_false_iff_not]
      show ¬ (room < ((0 : Nat) : Int) + (runB l).size)
      omega
    rw [hd, Bool.and_false]
    simp only [Bool.false_eq_true, if_false]
    have e : fput nm (ftext nm [] ++ runB l) [] = [(nm, runB l)] := by
      show [(nm, (⟨#[]⟩ : BA) ++ runB l)] = _
      rw [ba_nil0]
    show ((⟨fput nm (ftext nm [] ++ runB l) [], [], [.app nm (runB l)], room, -1, false⟩ : Dk), (0 : Int)) = _
    rw [e]; rfl
  unfold writeR
  rw [hc, hr, ha]
  rfl
theorem write_again {room : Int} {nm t : BA} {l : List Pr} (hm : mayN nm = true) (hc : chkR l = 0) : writeR (dR room nm t) nm l = (dR room nm t, 9) := by
  unfold writeR
  rw [hc, show ((0 : Int)) = ((0 : Nat) : Int) from rfl, dR_read hm]
  rfl
theorem write_bad {d : Dk} {nm : BA} {l : List Pr} (hc : chkR l ≠ 0) : writeR d nm l = (d, chkR l) := by
  unfold writeR; rw [if_pos hc]

theorem cut_mid (t : BA) (a n : Nat) (h : a + n ≤ t.size) : cut t a n = t.extract a (a + n) := by
  unfold cut
  dsimp only
  have e1 : (if (t.size : Int) < (a : Int) then (t.size : Int) else (a : Int)).toNat = a := by split <;> omega
  rw [e1]
  have e2 : (t.extract a t.size).size = t.size - a := by rw [ByteArray.size_extract]; omega
  rw [e2]
  have e3 : (if ((t.size - a : Nat) : Int) < (n : Int) then ((t.size - a : Nat) : Int) else (n : Int)).toNat = n := by split <;> omega
  rw [e3]
  apply bl_inj
  rw [bl_ext, bl_ext, bl_ext, List.drop_zero, Nat.sub_zero, List.take_take, Nat.add_sub_cancel_left]
  congr 1
  omega

/-- What is read of the frames of a text. -/
theorem frames_at : ∀ (l : List BA) (i : Nat) (h : i < l.length), (framesOf l).extract (lenT (l.take i)) (lenT (l.take i) + (12 + l[i].size)) = frameOf l[i]
  | [], i, h => by simp at h
  | s :: l, 0, h => by
    show (frameOf s ++ framesOf l).extract 0 (0 + (12 + s.size)) = frameOf s
    exact ext_left _ _ (by rw [frameOf_size]; omega)
  | s :: l, i + 1, h => by
    have hi' : i < l.length := by simpa using h
    have ih := frames_at l i hi'
    have hz := frameOf_size s
    have e : lenT ((s :: l).take (i + 1)) = (frameOf s).size + lenT (l.take i) := by rw [hz]; simp [lenT]
    show (frameOf s ++ framesOf l).extract (lenT ((s :: l).take (i + 1))) (lenT ((s :: l).take (i + 1)) + (12 + l[i].size)) = frameOf l[i]
    rw [e, ← ih]
    apply bl_inj
    rw [bl_ext, bl_ext, bl_app, List.drop_append, ← bl_len]
    have e2 : List.drop ((bl (frameOf s)).length + lenT (List.take i l)) (bl (frameOf s)) = [] := List.drop_of_length_le (by omega)
    rw [e2, List.nil_append]
    congr 1
    · omega
    · congr 1; omega
theorem frames_fit (l : List BA) (i : Nat) (h : i < l.length) : lenT (l.take i) + (12 + l[i].size) ≤ lenT l := by
  have h1 : lenT (l.take (i + 1)) ≤ lenT l := lenT_pre (List.take_prefix _ _)
  rw [List.take_succ_eq_append_getElem h, lenT_snoc] at h1
  exact h1

/-- Entry i of a run's. -/
theorem ents_get (l : List Pr) (i : Nat) (h : i < l.length) : (ents l)[i]? = some ⟨l[i], lenT ((runL l).take (i + 1)), 12 + (txtR l[i]).size⟩ := by
  have := entsF_get l 20 i h
  unfold ents
  rw [this]
  congr 2
  simp only [runL, List.take_succ_cons, lenT, List.map_cons, List.sum_cons, put8_size, ← List.map_take]
theorem runL_get (l : List Pr) (i : Nat) (h : i < l.length) : ∃ h' : i + 1 < (runL l).length, (runL l)[i + 1] = txtR l[i] := by
  refine ⟨by simp [runL]; omega, ?_⟩
  simp [runL]

theorem ents_read {room : Int} {nm : BA} (hm : mayN nm = true) {l : List Pr} {x : En} (hx : x ∈ ents l) : x.p ∈ l ∧ (dR room nm (runB l)).read nm x.at_ x.sz = (frameOf (txtR x.p), 0) ∧ x.sz = 12 + (txtR x.p).size := by
  obtain ⟨i, hi⟩ := List.mem_iff_getElem?.1 hx
  have hil : i < l.length := by
    have := (List.getElem?_eq_some_iff.1 hi).1
    rw [show (ents l).length = l.length from entsF_len l 20] at this
    exact this
  rw [ents_get l i hil] at hi
  simp only [Option.some.injEq] at hi
  subst hi
  obtain ⟨h', e'⟩ := runL_get l i hil
  have h1 := frames_at (runL l) (i + 1) h'
  have h2 := frames_fit (runL l) (i + 1) h'
  rw [e'] at h1 h2
  refine ⟨List.getElem_mem hil, ?_, rfl⟩
  dsimp only
  rw [dR_read hm, cut_mid _ _ _ (by unfold runB; rw [framesOf_size]; exact h2)]
  unfold runB
  rw [h1]
theorem scan_frame (s : BA) (h : s.size ≤ 4194304) : scanOf (frameOf s) = ([s], 12 + s.size, 0) := scanOf_one s h
end Go.Proofs.Ytgmobpngcilgjaa
/- Runs, in plain Lean: what a scan tells, where all is read well. -/
set_option linter.unusedVariables false
namespace Go.Proofs.Ytgmobpngcilgjaa
open Go Go.Fx Go.Pl

def withB (fr to : BA) (p : Pr) : Bool := !(ltS p.k fr) && ((to.toList == (⟨#[]⟩ : BA).toList) || ltS p.k to)
def rdG (x : En) : Pr × Int := (x.p, 0)
theorem yR_good (to : BA) : ∀ l : List En, yR rdG to l = (l.takeWhile fun x => !endR to x).map rdG
  | [] => rfl
  | x :: l => by
    unfold yR
    rw [List.takeWhile_cons]
    cases he : endR to x with
    | true => simp
    | false =>
      have h0 : (rdG x).2 = 0 := rfl
      simp [h0, yR_good to l]
theorem eat_take {most : Nat} : ∀ (ys pre : List (Pr × Int)), (∀ y ∈ ys, y.2 = 0) → pre.length < most → (eat (goR most) pre ys).1 = pre ++ ys.take (most - pre.length)
  | [], pre, _, _ => by simp [eat]
  | y :: ys, pre, h, hp => by
    have h0 : y.2 = 0 := h y (List.mem_cons_self ..)
    rw [eat_cons]
    obtain ⟨k, hk⟩ : ∃ k, most - pre.length = k + 1 := ⟨most - pre.length - 1, by omega⟩
    rw [hk, List.take_succ_cons]
    by_cases hl : pre.length + 1 = most
    · have hg : goR (most : Int) (pre ++ [y]) = false := by
        unfold goR
        rw [errR_snoc, h0, List.length_append, List.length_singleton, hl]; simp
      have hk0 : k = 0 := by omega
      rw [hg, hk0]; simp
    · have hg : goR (most : Int) (pre ++ [y]) = true := by
        unfold goR
        rw [errR_snoc, h0, List.length_append, List.length_singleton]
        simp; omega
      rw [hg, if_pos rfl, eat_take ys (pre ++ [y]) (fun z hz => h z (List.mem_cons_of_mem _ hz)) (by rw [List.length_append, List.length_singleton]; omega), List.append_assoc, List.length_append, List.length_singleton]
      have : most - (pre.length + 1) = k := by omega
      rw [this]; rfl

theorem drop_takeWhile {α : Type} (p : α → Bool) : ∀ l : List α, l.drop (l.takeWhile p).length = l.dropWhile p
  | [] => rfl
  | x :: l => by
    rw [List.takeWhile_cons, List.dropWhile_cons]
    cases h : p x with
    | true => simp [drop_takeWhile p l]
    | false => simp

theorem within_sorted (fr to : BA) : ∀ {l : List Pr}, Sorted l → l.filter (withB fr to) = (l.dropWhile fun p => ltS p.k fr).takeWhile fun p => (to.toList == (⟨#[]⟩ : BA).toList) || ltS p.k to
  | [], _ => rfl
  | p :: l, hs => by
    have h' := List.pairwise_cons.1 hs
    have ih := within_sorted fr to h'.2
    rw [List.dropWhile_cons, List.filter_cons]
    cases hf : ltS p.k fr with
    | true =>
      have : withB fr to p = false := by unfold withB; rw [hf]; rfl
      rw [this]; simp [ih]
    | false =>
      have hnf : ∀ q ∈ l, ltS q.k fr = false := fun q hq => by
        cases h : ltS q.k fr with
        | false => rfl
        | true => have := ltS_trans (h'.1 q hq) h; rw [hf] at this; cases this
      simp only [Bool.false_eq_true, if_false]
      have hdl : (l.dropWhile fun p => ltS p.k fr) = l := by
        cases l with
        | nil => rfl
        | cons q l => rw [List.dropWhile_cons, hnf q (List.mem_cons_self ..)]; rfl
      rw [hdl] at ih
      rw [List.takeWhile_cons]
      cases ht : ((to.toList == (⟨#[]⟩ : BA).toList) || ltS p.k to) with
      | true =>
        have : withB fr to p = true := by unfold withB; rw [hf, ht]; rfl
        rw [this]; simp [ih]
      | false =>
        have : withB fr to p = false := by unfold withB; rw [hf, ht]; rfl
        rw [this]
        simp only [Bool.false_eq_true, if_false]
        rw [Bool.or_eq_false_iff] at ht
        rw [List.filter_eq_nil_iff]
        intro q hq
        unfold withB
        rw [ht.1, Bool.false_or]
        have : ltS q.k to = false := by
          cases h : ltS q.k to with
          | false => rfl
          | true => have := ltS_trans (h'.1 q hq) h; rw [ht.2] at this; cases this
        rw [this]; simp

theorem takeWhile_map_p (g : Pr → Bool) : ∀ l : List En, (l.takeWhile fun x => g x.p).map (·.p) = (l.map (·.p)).takeWhile g
  | [] => rfl
  | x :: l => by
    rw [List.takeWhile_cons, List.map_cons, List.takeWhile_cons]
    cases h : g x.p <;> simp [takeWhile_map_p g l]
theorem dropWhile_map_p (g : Pr → Bool) : ∀ l : List En, (l.dropWhile fun x => g x.p).map (·.p) = (l.map (·.p)).dropWhile g
  | [] => rfl
  | x :: l => by
    rw [List.dropWhile_cons, List.map_cons, List.dropWhile_cons]
    cases h : g x.p <;> simp [dropWhile_map_p g l]

/-- The pairs of a scan. -/
def scanR (l : List Pr) (fr to : BA) (most : Nat) : List Pr := (l.filter (withB fr to)).take most
theorem scan_good {l : List Pr} (hs : Sorted l) (fr to : BA) (most : Nat) (hm : 1 ≤ most) :
    errR (eat (goR (most : Int)) [] (yR rdG to ((ents l).drop (posR (ents l) fr)))).1 = 0 ∧ colR (eat (goR (most : Int)) [] (yR rdG to ((ents l).drop (posR (ents l) fr)))).1 = scanR l fr to most := by
  have hz : ∀ y ∈ yR rdG to ((ents l).drop (posR (ents l) fr)), y.2 = 0 := by
    rw [yR_good]
    intro y hy
    obtain ⟨x, _, rfl⟩ := List.mem_map.1 hy
    rfl
  have he := eat_take (most := most) (yR rdG to ((ents l).drop (posR (ents l) fr))) [] hz (by simp; omega)
  rw [List.nil_append, List.length_nil, Nat.sub_zero] at he
  have hz' : ∀ y ∈ (yR rdG to ((ents l).drop (posR (ents l) fr))).take most, y.2 = 0 := fun y hy => hz y (List.mem_of_mem_take hy)
  rw [he]
  refine ⟨errR_ok hz', ?_⟩
  rw [colR_ok hz', List.map_take]
  unfold scanR
  congr 1
  rw [yR_good, List.map_map, within_sorted fr to hs]
  have e1 : ((fun x : Pr × Int => x.1) ∘ rdG) = fun x : En => x.p := rfl
  rw [e1]
  unfold posR
  rw [drop_takeWhile]
  have e2 : (fun x : En => !endR to x) = fun x : En => ((to.toList == (⟨#[]⟩ : BA).toList) || ltS x.p.k to) := by
    funext x
    unfold endR
    cases (to.toList == (⟨#[]⟩ : BA).toList) <;> cases ltS x.p.k to <;> rfl
  rw [e2, takeWhile_map_p (fun p => (to.toList == (⟨#[]⟩ : BA).toList) || ltS p.k to), dropWhile_map_p (fun p => ltS p.k fr), show (ents l).map (·.p) = l from entsF_p l 20]
end Go.Proofs.Ytgmobpngcilgjaa
/- The walks of the law's helpers for the runs: Large, heavy, Same, alive; RunNil. -/
-- @DEFS Z
set_option linter.unusedSimpArgs false
set_option linter.unusedVariables false
set_option maxRecDepth 4000
namespace Go.Proofs.Ytgmobpngcilgjaa
open Go Go.Fx Go.Proofs Go.Pl

def sumP (l : List Pr) : Nat := (l.map fun p => p.k.size + p.v.size).sum
theorem sumP_snoc (l : List Pr) (p : Pr) : sumP (l ++ [p]) = sumP l + (p.k.size + p.v.size) := by simp [sumP]

theorem LargeP_spec (u : Value) (A : HProp) (xs : List Pr) (hA : Vw A 3 u (xs.map prV)) (hz : ∀ x ∈ xs, x.k.size ≤ 140737488355328 ∧ x.v.size ≤ 140737488355328) :
    FSpec Try.prog 14 [u] [A] Bool (fun y => y = false → xs.length ≤ 200 ∧ sumP xs ≤ 32768) (fun y => .bool y) (fun _ => [A]) := by
  have hlen : (xs.map prV).length = xs.length := by simp
  refine spec_intro [] _ Try.func14 rfl Try.ntmps14 (by rfl) (fun w0 R => ?_)
  refine ok_learn (VwIn.slice (VwIn.here hA)) ?_
  rintro ⟨pu, cu, rfl⟩
  repeat' (first | (refine go_Z ?_; intros) | (refine gs_Z ?_ ?_ <;> (intro hgd; try (simp only [Bool.not_true, Bool.not_false] at hgd))) | (refine gc_Z ?_ ?_ <;> intro _) | fail)
  refine ok_loop' (γ := Nat) (fun n ρ L => n ≤ xs.length ∧ n ≤ 300 ∧ sumP (xs.take n) ≤ n * 281474976710656 ∧ Knows ρ [(0, .slice pu (xs.map prV).length cu), (3, .int .i64 (sumP (xs.take n))), (4, .int .i64 n)] ∧ L = [A] ++ R) (fun n => 300 - n) 0 ⟨by omega, by omega, by simp [sumP], ⟨rfl, rfl, rfl, trivial⟩, rfl⟩ ?_
  rintro n ρ L ⟨hn, hn3, hw, hk, rfl⟩
  refine ok_regs hk ?_
  cases t1 : decide ((n : Int) < ((xs.map prV).length : Int)) with
  | false =>
    have hn' : n = xs.length := by simp at t1; omega
    have hfull : xs.take n = xs := by rw [hn']; exact List.take_length
    rw [hfull] at hk ⊢
    repeat' (first | (refine go_Z ?_; intros) | (refine gs_Z ?_ ?_ <;> (intro hgd; try (simp only [Bool.not_true, Bool.not_false] at hgd))) | (refine gc_Z ?_ ?_ <;> intro _) | fail)
    all_goals (refine rt_Z (y := _) (hrs := Try.results14) (hv := by exact rfl) (hφ := ?_))
    all_goals (intro hb; first | (exact absurd hb Bool.noConfusion) | (simp only [decide_eq_false_iff_not, decide_eq_true_eq, hlen] at hgd hb; exact ⟨by omega, by omega⟩))
  | true =>
    have h : n < xs.length := by simp at t1; omega
    cases t2 : decide ((n : Int) < 300) with
    | false =>
      have hbig : decide ((200 : Int) < ((xs.map prV).length : Int)) = true := by simp at t2 ⊢; omega
      repeat' (first | (refine go_Z ?_; intros) | (refine gs_Z ?_ ?_ <;> (intro hgd; try (simp only [Bool.not_true, Bool.not_false] at hgd))) | (refine gc_Z ?_ ?_ <;> intro _) | fail)
      (refine rt_Z (y := _) (hrs := Try.results14) (hv := by exact rfl) (hφ := ?_))
      intro hb
      cases hb
    | true =>
      have h3 : n < 300 := by simp at t2; omega
      have hn1 : n < (xs.map prV).length := by simpa using h
      have hx : (xs.map prV)[n]? = some (prV xs[n]) := by rw [List.getElem?_map, List.getElem?_eq_getElem h]; rfl
      have htk : sumP (xs.take (n + 1)) = sumP (xs.take n) + (xs[n].k.size + xs[n].v.size) := by rw [List.take_succ_eq_append_getElem h, sumP_snoc]
      obtain ⟨z1, z2⟩ := hz xs[n] (List.getElem_mem h)
      refine ok_learn (VwIn.base (VwIn.here hA) (by intro e; rw [e] at hn1; simp at hn1)) ?_
      rintro ⟨bu, ou, rfl⟩
      generalize xs[n] = x at hx htk z1 z2
      have hsum : (sumP (xs.take n) : Int) + (x.k.size : Int) + (x.v.size : Int) = (sumP (xs.take (n + 1)) : Int) := by omega
      repeat' (first | (refine go_Z ?_; intros) | (refine gs_Z ?_ ?_ <;> (intro hgd; try (simp only [Bool.not_true, Bool.not_false] at hgd))) | (refine gc_Z ?_ ?_ <;> intro _) | fail)
      rw [hsum]
      refine cont_back (n + 1) ⟨h, h3, by omega, ⟨rfl, rfl, rfl, trivial⟩, rfl⟩ (by omega)

/-- A step of a script. -/
structure Sr where
  op : Int
  file : BA
  l : List Pr
  v : { v : Value // v.oneCell' = true }
  key : BA
  fr : BA
  to : BA
  n : Int
  m : Int
def srV (x : Sr) : List Value := [.int .i64 x.op, .string x.file, x.v.1, .string x.key, .string x.fr, .string x.to, .int .i64 x.n, .int .i64 x.m]

theorem heavyR_spec (u : Value) (A B : HProp) (xs : List Sr) (hA : Vw A 8 u (xs.map srV)) (hv : ∀ x ∈ xs, Vw B 3 x.v.1 (x.l.map prV) ∧ ∀ p ∈ x.l, p.k.size ≤ 140737488355328 ∧ p.v.size ≤ 140737488355328) :
    FSpec Try.prog 53 [u] [A, B] Bool (fun _ => True) (fun y => .bool y) (fun _ => [A, B]) := by
  have hlen : (xs.map srV).length = xs.length := by simp
  refine spec_intro [] _ Try.func53 rfl Try.ntmps53 (by rfl) (fun w0 R => ?_)
  refine ok_learn (VwIn.slice (VwIn.here hA)) ?_
  rintro ⟨pu, cu, rfl⟩
  repeat' (first | (refine go_Z ?_; intros) | (refine gs_Z ?_ ?_ <;> (intro hgd; try (simp only [Bool.not_true, Bool.not_false] at hgd))) | (refine gc_Z ?_ ?_ <;> intro _) | fail)
  refine ok_loop' (γ := Nat) (fun i ρ L => i ≤ xs.length ∧ i ≤ 100 ∧ ∃ z : Int, Knows ρ [(0, .slice pu (xs.map srV).length cu), (3, .int .i64 z), (4, .int .i64 i)] ∧ L = [A, B] ++ R) (fun i => xs.length - i) 0 ⟨by simp, by simp, 0, ⟨rfl, rfl, rfl, trivial⟩, rfl⟩ ?_
  rintro i ρ L ⟨hi, hi1, z, hk, rfl⟩
  refine ok_regs hk ?_
  cases t1 : decide ((i : Int) < ((xs.map srV).length : Int)) with
  | false =>
    repeat' (first | (refine go_Z ?_; intros) | (refine gs_Z ?_ ?_ <;> (intro hgd; try (simp only [Bool.not_true, Bool.not_false] at hgd))) | (refine gc_Z ?_ ?_ <;> intro _) | fail)
    all_goals (refine rt_Z (y := _) (hrs := Try.results53) (hv := by exact rfl) (hφ := ?_))
    all_goals trivial
  | true =>
    have h : i < xs.length := by simp at t1; omega
    cases t2 : decide ((i : Int) < 100) with
    | false =>
      repeat' (first | (refine go_Z ?_; intros) | (refine gs_Z ?_ ?_ <;> (intro hgd; try (simp only [Bool.not_true, Bool.not_false] at hgd))) | (refine gc_Z ?_ ?_ <;> intro _) | fail)
      all_goals (refine rt_Z (y := _) (hrs := Try.results53) (hv := by exact rfl) (hφ := ?_))
      all_goals trivial
    | true =>
      have h3 : i < 100 := by simp at t2; omega
      have hn1 : i < (xs.map srV).length := by omega
      have hx : (xs.map srV)[i]? = some (srV xs[i]) := by rw [List.getElem?_map, List.getElem?_eq_getElem h]; rfl
      obtain ⟨hvx, hzx⟩ := hv _ (List.getElem_mem h)
      refine ok_learn (VwIn.base (VwIn.here hA) (by intro e; rw [e] at hn1; simp at hn1)) ?_
      rintro ⟨bu, ou, rfl⟩
      generalize xs[i] = x at hx hvx hzx
      obtain ⟨o, fi, l, ⟨v, hvc⟩, key, fr, to, n, m⟩ := x
      dsimp only at hvx hzx
      have hL := LargeP_spec v B l hvx hzx
      repeat' (first | (refine go_Z ?_; intros) | (refine gs_Z ?_ ?_ <;> (intro hgd; try (simp only [Bool.not_true, Bool.not_false] at hgd))) | (refine gc_Z ?_ ?_ <;> intro _) | fail)
      refine cl_Z (hL) ?_
      intro y _
      cases y with
      | true =>
        repeat' (first | (refine go_Z ?_; intros) | (refine gs_Z ?_ ?_ <;> (intro hgd; try (simp only [Bool.not_true, Bool.not_false] at hgd))) | (refine gc_Z ?_ ?_ <;> intro _) | fail)
        (refine rt_Z (y := _) (hrs := Try.results53) (hv := by exact rfl) (hφ := ?_))
        trivial
      | false =>
        repeat' (first | (refine go_Z ?_; intros) | (refine gs_Z ?_ ?_ <;> (intro hgd; try (simp only [Bool.not_true, Bool.not_false] at hgd))) | (refine gc_Z ?_ ?_ <;> intro _) | fail)
        refine cont_map (L' := [A, B] ++ R) entD ?_
        refine cont_back (i + 1) ⟨h, h3, _, ⟨rfl, rfl, rfl, trivial⟩, rfl⟩ (by omega)

def eqPr (p q : Pr) : Bool := eqL [.string, .string, .bool] (prV p) (prV q)
def samePr : List Pr → List Pr → Bool
  | [], [] => true
  | x :: xs, y :: ys => eqPr x y && samePr xs ys
  | _, _ => false
theorem eqPr_self (p : Pr) : eqPr p p = true := by simp [eqPr, eqL, eqD, prV]
theorem samePr_self : ∀ l : List Pr, samePr l l = true
  | [] => rfl
  | p :: l => by simp [samePr, eqPr_self, samePr_self l]
theorem samePr_len : ∀ {xs ys : List Pr}, xs.length ≠ ys.length → samePr xs ys = false
  | [], [], h => absurd rfl h
  | [], _ :: _, _ => rfl
  | _ :: _, [], _ => rfl
  | x :: xs, y :: ys, h => by
    simp only [samePr, samePr_len (xs := xs) (ys := ys) (by simpa using h), Bool.and_false]

theorem prSame_spec (u v : Value) (A B : HProp) (xs ys : List Pr) (hA : Vw A 3 u (xs.map prV)) (hB : Vw B 3 v (ys.map prV)) (hb : xs.length ≤ 4611686018427387904) :
    FSpec Try.prog 63 [u, v] [A, B] Unit (fun _ => True) (fun _ => .bool (samePr xs ys)) (fun _ => [A, B]) := by
  have hlm : (xs.map prV).length = xs.length := List.length_map ..
  have hlm' : (ys.map prV).length = ys.length := List.length_map ..
  refine spec_intro [] _ Try.func63 rfl Try.ntmps63 (by rfl) (fun w0 R => ?_)
  refine ok_learn (VwIn.slice (VwIn.here hA)) ?_
  rintro ⟨pu, cu, rfl⟩
  refine ok_learn (VwIn.slice (VwIn.there (VwIn.here hB))) ?_
  rintro ⟨pv, cv, rfl⟩
  cases hl : (!decide (((xs.map prV).length : Int) = ((ys.map prV).length : Int))) with
  | true =>
    have e1 : samePr xs ys = false := samePr_len (by simp only [List.length_map, Bool.not_eq_true', decide_eq_false_iff_not] at hl; omega)
    rw [e1]
    repeat' (first | (refine go_Z ?_; intros) | (refine gs_Z ?_ ?_ <;> (intro hgd; try (simp only [Bool.not_true, Bool.not_false] at hgd))) | (refine gc_Z ?_ ?_ <;> intro _) | fail)
    (refine rt_Z (y := ()) (hrs := Try.results63) (hv := ?_) (hφ := ?_))
    · rfl
    · trivial
  | false =>
    have e1 : xs.length = ys.length := by simp only [List.length_map, Bool.not_eq_false', decide_eq_true_eq] at hl; omega
    repeat' (first | (refine go_Z ?_; intros) | (refine gs_Z ?_ ?_ <;> (intro hgd; try (simp only [Bool.not_true, Bool.not_false] at hgd))) | (refine gc_Z ?_ ?_ <;> intro _) | fail)
    refine ok_loop' (γ := Nat) (fun n ρ L => n ≤ xs.length ∧ samePr (xs.drop n) (ys.drop n) = samePr xs ys ∧ Knows ρ [(0, .slice pu (xs.map prV).length cu), (1, .slice pv (ys.map prV).length cv), (5, .int .i64 n)] ∧ L = [A, B] ++ R) (fun n => xs.length - n) 0 ⟨Nat.zero_le _, rfl, ⟨rfl, rfl, rfl, trivial⟩, rfl⟩ ?_
    rintro n ρ L ⟨hn, hsm, hk, rfl⟩
    refine ok_regs hk ?_
    rcases Nat.lt_or_ge n xs.length with h | h
    · have t1 : decide ((n : Int) < ((xs.map prV).length : Int)) = true := by simp only [decide_eq_true_eq]; omega
      have hn1 : n < (xs.map prV).length := by omega
      have hn2 : n < (ys.map prV).length := by omega
      have h' : n < ys.length := by omega
      have hx : (xs.map prV)[n]? = some (prV xs[n]) := by rw [List.getElem?_map, List.getElem?_eq_getElem h]; rfl
      have hy : (ys.map prV)[n]? = some (prV ys[n]) := by rw [List.getElem?_map, List.getElem?_eq_getElem h']; rfl
      have hd : samePr xs ys = (eqPr xs[n] ys[n] && samePr (xs.drop (n + 1)) (ys.drop (n + 1))) := by
        rw [← hsm, List.drop_eq_getElem_cons h, List.drop_eq_getElem_cons h']; rfl
      refine ok_learn (VwIn.base (VwIn.here hA) (by intro e; rw [e] at hn1; simp at hn1)) ?_
      rintro ⟨bu, ou, rfl⟩
      refine ok_learn (VwIn.base (VwIn.there (VwIn.here hB)) (by intro e; rw [e] at hn2; simp at hn2)) ?_
      rintro ⟨bv, ov, rfl⟩
      generalize xs[n] = x at hx hd
      generalize ys[n] = y at hy hd
      dsimp only [prV] at hx hy
      cases hc : nilB .neq (eqL [.string, .string, .bool] [.string x.k, .string x.v, .bool x.g] [.string y.k, .string y.v, .bool y.g]) with
      | true =>
        have e2 : eqPr x y = false := by
          have : (!eqPr x y) = true := hc
          simpa using this
        rw [e2, Bool.false_and] at hd
        rw [hd]
        repeat' (first | (refine go_Z ?_; intros) | (refine gs_Z ?_ ?_ <;> (intro hgd; try (simp only [Bool.not_true, Bool.not_false] at hgd))) | (refine gc_Z ?_ ?_ <;> intro _) | fail)
        (refine rt_Z (y := ()) (hrs := Try.results63) (hv := ?_) (hφ := ?_))
        · rfl
        · trivial
      | false =>
        have e2 : eqPr x y = true := by
          have : (!eqPr x y) = false := hc
          simpa using this
        rw [e2, Bool.true_and] at hd
        repeat' (first | (refine go_Z ?_; intros) | (refine gs_Z ?_ ?_ <;> (intro hgd; try (simp only [Bool.not_true, Bool.not_false] at hgd))) | (refine gc_Z ?_ ?_ <;> intro _) | fail)
        refine cont_back (n + 1) ⟨h, hd.symm, ⟨rfl, rfl, rfl, trivial⟩, rfl⟩ (by omega)
    · have t1 : decide ((n : Int) < ((xs.map prV).length : Int)) = false := by simp only [decide_eq_false_iff_not, List.length_map]; omega
      have e2 : samePr xs ys = true := by
        rw [← hsm, List.drop_eq_nil_of_le h, List.drop_eq_nil_of_le (by omega)]; rfl
      rw [e2]
      repeat' (first | (refine go_Z ?_; intros) | (refine gs_Z ?_ ?_ <;> (intro hgd; try (simp only [Bool.not_true, Bool.not_false] at hgd))) | (refine gc_Z ?_ ?_ <;> intro _) | fail)
      (refine rt_Z (y := ()) (hrs := Try.results63) (hv := ?_) (hφ := ?_))
      · rfl
      · trivial

/-- All entries are read well. -/
theorem reads_good {room : Int} {nm : BA} (hm : mayN nm = true) {l : List Pr} (hok : ∀ p ∈ l, okP p = true) (rb b : Nat) (v : Value) (sz : Int) (hn : nm.size ≤ 4611686018427387904) : ∀ x ∈ ents l,
    FSpec Try.prog 111 [.pointer (some ⟨rb, 0, none⟩), .agg (enV x).toArray] [rnP rb b nm v sz, diskP b (dR room nm (runB l))] Unit (fun _ => True) (fun _ => .tuple #[.agg (prV (rdG x).1).toArray, .int .i64 (rdG x).2]) (fun _ => [rnP rb b nm v sz, diskP b (dR room nm (runB l))]) := by
  intro x hx
  obtain ⟨h1, h2, h3⟩ := ents_read (room := room) hm hx
  have hp := hok _ h1
  have hz := txtR_small hp
  exact rread_good rb b nm v sz (dR room nm (runB l)) x (frameOf (txtR x.p)) hn h2 (by rw [scan_frame _ (by omega), h3]) hp (by rw [frameOf_size]; omega)
end Go.Proofs.Ytgmobpngcilgjaa
