/- Texts merged: WlP WlA WlQ WlF. -/
import Derived.Test.YtadgdikijdmceaaGreatFrP
import Derived.Test.YtadgdikijdmceaaGreatG3
import Derived.Test.YtadgdikijdmceaaGreatG5
import Derived.Test.YtadgdikijdmceaaGreatG8
import Derived.Test.YtadgdikijdmceaaGreatMnS
set_option linter.unusedVariables false
namespace Go.Proofs.YtadgdikijdmceaaGreat
open Go Go.Fx Go.Pl

structure Wv where
  n : Int
  size : Int
  fault : Int
def openT (d : Dk) (nm : BA) : Dk × Int := if (scanOf (d.read nm 0 16777216).1).2.2 = 70 then d.truncate nm ((scanOf (d.read nm 0 16777216).1).2.1 : Int) else (d, 0)
def openS (d : Dk) : Dk × Int := if 0 < d.loose.length then d.sync else (d, 0)
def openW (d : Dk) (nm : BA) : Dk × Int × List BA × Nat :=
  if (d.read nm 0 16777216).2 ≠ 0 ∧ (d.read nm 0 16777216).2 ≠ 3 then (d, (d.read nm 0 16777216).2, [], 0) else
  if (scanOf (d.read nm 0 16777216).1).2.2 = 71 then (d, 71, [], 0) else
  if (openT d nm).2 ≠ 0 then ((openT d nm).1, (openT d nm).2, [], 0) else
  if (openS (openT d nm).1).2 ≠ 0 then ((openS (openT d nm).1).1, (openS (openT d nm).1).2, [], 0) else
  ((openS (openT d nm).1).1, 0, (scanOf (d.read nm 0 16777216).1).1, (scanOf (d.read nm 0 16777216).1).2.1)
def Wv.down (w : Wv) (e : Int) : Wv := if e ≠ 0 ∧ e ≠ 4 then { w with fault := e } else w
def appendW (w : Wv) (d : Dk) (nm : BA) (l : List BA) : Wv × Dk × Int :=
  if w.fault ≠ 0 then (w, d, w.fault) else
  if allOk l = false then (w, d, 5) else
  if l.length = 0 then (w, d, 0) else
  if (d.append nm (framesOf l)).2 ≠ 0 then (w.down (d.append nm (framesOf l)).2, (d.append nm (framesOf l)).1, (d.append nm (framesOf l)).2) else
  if (d.append nm (framesOf l)).1.sync.2 ≠ 0 then (w.down (d.append nm (framesOf l)).1.sync.2, (d.append nm (framesOf l)).1.sync.1, (d.append nm (framesOf l)).1.sync.2) else
  (⟨w.n + l.length, w.size + lenT l, w.fault⟩, (d.append nm (framesOf l)).1.sync.1, 0)
def rem3 (d : Dk) (nm : BA) : Int := if (d.remove nm).2 = 3 then 0 else (d.remove nm).2
def remS (d : Dk) (nm : BA) : Dk × Int := if (d.remove nm).2 = 3 then ((d.remove nm).1, 0) else (d.remove nm).1.sync
def resetW (w : Wv) (d : Dk) (nm : BA) : Wv × Dk × Int :=
  if w.fault ≠ 0 then (w, d, w.fault) else
  if rem3 d nm ≠ 0 then (w.down (rem3 d nm), (d.remove nm).1, rem3 d nm) else
  if (remS d nm).2 ≠ 0 then (w.down (remS d nm).2, (remS d nm).1, (remS d nm).2) else
  (⟨0, 0, w.fault⟩, (remS d nm).1, 0)
end Go.Proofs.YtadgdikijdmceaaGreat
set_option linter.unusedSimpArgs false
set_option linter.unusedVariables false
set_option maxRecDepth 100000
namespace Go.Proofs.YtadgdikijdmceaaGreat
open Go Go.Fx Go.Proofs Go.Pl

def walV (b : Nat) (nm : BA) (w : Wv) : List Value := [.pointer (some ⟨b, 0, none⟩), .string nm, .int .i64 w.n, .int .i64 w.size, .int .i64 w.fault]
theorem read_size (d : Dk) (nm : BA) (n : Int) (h0 : 0 ≤ n) : ((d.read nm 0 n).1.size : Int) ≤ n := by
  unfold Dk.read
  split
  · exact h0
  · split
    · exact h0
    · split
      · exact h0
      · unfold cut
        simp only [ByteArray.size_extract]
        split <;> omega

end Go.Proofs.YtadgdikijdmceaaGreat
set_option linter.unusedVariables false
namespace Go.Proofs.YtadgdikijdmceaaGreat
open Go Go.Fx Go.Pl

def nW : BA := ⟨#[119]⟩
theorem ext_ext (a : BA) {k i j : Nat} (h : j ≤ k) : (a.extract 0 k).extract i j = a.extract i j := by
  apply bl_inj
  rw [bl_ext, bl_ext, bl_ext, List.drop_zero, Nat.sub_zero, List.drop_take, List.take_take]
  congr 1
  omega
theorem ext_app (a b : BA) (m : Nat) : (a ++ b).extract 0 (a.size + m) = a ++ b.extract 0 m := by
  apply bl_inj
  rw [bl_ext, bl_app, bl_app, bl_ext, List.drop_zero, List.drop_zero, Nat.sub_zero, Nat.sub_zero, ← bl_len, List.take_append, List.take_of_length_le (by omega)]
  congr 2
  omega
theorem ext_zero (a : BA) : a.extract 0 0 = ⟨#[]⟩ := by
  apply bl_inj
  rw [bl_ext]
  simp [bl]
theorem ba_size0 {b : BA} (h : b.size = 0) : b = ⟨#[]⟩ := by
  apply bl_inj
  have := bl_len b
  rw [h] at this
  rw [List.length_eq_zero_iff.1 this]; rfl

theorem nextF_cut (s t : BA) (hs : s.size ≤ 4194304) {k : Nat} (hk : k < 12 + s.size) : (nextF ((frameOf s ++ t).extract 0 k)).2 = 70 := by
  obtain ⟨p1, p2, _, _, _⟩ := frameOf_parts s t
  have g1 := put4_get s.size (by omega)
  have g2 := put4_get (sumN (put4 s.size)) (sumN_eq _).2
  have hz : (frameOf s ++ t).size = 12 + s.size + t.size := by rw [ByteArray.size_append, frameOf_size]
  have hc : ((frameOf s ++ t).extract 0 k).size = k := by rw [ByteArray.size_extract]; omega
  unfold nextF
  by_cases h8 : k < 8
  · rw [if_pos (by omega)]
  · rw [if_neg (by omega), ext_ext _ (by omega), ext_ext _ (by omega), p1, p2, g1, g2, (sumN_eq (put4 s.size)).1, if_neg (by simp; omega), hc, if_pos (by omega)]

theorem scan_70 {b : BA} (h0 : b.size ≠ 0) (h : (nextF b).2 = 70) : scanOf b = ([], 0, 70) := by
  unfold scanOf
  obtain ⟨k, hk⟩ : ∃ k, b.size = k + 1 := ⟨b.size - 1, by omega⟩
  rw [hk]
  unfold scanF
  rw [if_neg h0, if_pos (by rw [h]; decide), h]

theorem scan_cut : ∀ (l : List BA), allOk l = true → ∀ k, ∃ j, (scanOf ((framesOf l).extract 0 k)).1 = l.take j ∧ (scanOf ((framesOf l).extract 0 k)).2.1 = lenT (l.take j) ∧
    ((scanOf ((framesOf l).extract 0 k)).2.2 = 0 ∧ (framesOf l).extract 0 k = framesOf (l.take j) ∨ (scanOf ((framesOf l).extract 0 k)).2.2 = 70) ∧ ((framesOf l).extract 0 k).extract 0 (lenT (l.take j)) = framesOf (l.take j)
  | [], _, k => by
    have e : (framesOf []).extract 0 k = ⟨#[]⟩ := by
      apply ba_size0; rw [ByteArray.size_extract]; show min k 0 - 0 = 0; omega
    rw [e, scanOf_nil]
    exact ⟨0, rfl, rfl, .inl ⟨rfl, rfl⟩, rfl⟩
  | s :: l, h, k => by
    simp only [allOk, List.all_cons, Bool.and_eq_true, decide_eq_true_eq] at h
    have ef : framesOf (s :: l) = frameOf s ++ framesOf l := rfl
    have hz : (frameOf s ++ framesOf l).size = 12 + s.size + (framesOf l).size := by rw [ByteArray.size_append, frameOf_size]
    rw [ef]
    rcases Nat.lt_or_ge k (12 + s.size) with hk | hk
    · by_cases h0 : k = 0
      · subst h0
        rw [ext_zero, scanOf_nil]
        exact ⟨0, rfl, rfl, .inl ⟨rfl, rfl⟩, rfl⟩
      · have hn := nextF_cut s (framesOf l) h.1 hk
        rw [scan_70 (by rw [ByteArray.size_extract]; omega) hn]
        exact ⟨0, rfl, rfl, .inr rfl, ext_zero _⟩
    · obtain ⟨m, rfl⟩ : ∃ m, k = (frameOf s).size + m := ⟨k - (12 + s.size), by rw [frameOf_size]; omega⟩
      rw [ext_app, scanOf_frame _ _ h.1]
      obtain ⟨j, h1, h2, h3, h4⟩ := scan_cut l h.2 m
      refine ⟨j + 1, by rw [h1]; rfl, ?_, ?_, ?_⟩
      · rw [h2]; simp [lenT]
      · rcases h3 with ⟨h3, h5⟩ | h3
        · exact .inl ⟨h3, by rw [h5]; rfl⟩
        · exact .inr h3
      · have e : lenT ((s :: l).take (j + 1)) = (frameOf s).size + lenT (l.take j) := by rw [frameOf_size]; simp [lenT]
        rw [e, ext_app, h4]; rfl

theorem allOk_app {a b : List BA} : allOk (a ++ b) = (allOk a && allOk b) := by simp [allOk]
theorem allOk_take {a : List BA} (h : allOk a = true) (k : Nat) : allOk (a.take k) = true := by
  simp only [allOk, List.all_eq_true] at h ⊢
  exact fun x hx => h x (List.mem_of_mem_take hx)
structure WGood (d : Dk) (w : Wv) (h : List BA) : Prop where
  ok : d.Ok
  okh : allOk h = true
  loose : d.loose = []
  txt : ftext nW d.files = framesOf h
  wv : w = ⟨h.length, lenT h, 0⟩
structure WInv (d : Dk) (h m : List BA) (rs : Bool) : Prop where
  ok : d.Ok
  okh : allOk h = true
  okm : allOk m = true
  few : d.loose.length ≤ 1
  cr : ∀ keep torn, (∃ k, ftext nW (d.crash keep torn).files = framesOf h ++ (framesOf m).extract 0 k) ∨ (rs = true ∧ ftext nW (d.crash keep torn).files = ⟨#[]⟩)

theorem torn_none {d : Dk} (hl : d.loose = []) (k : Nat) (t : Int) : d.torn k t = d.sure := by
  unfold Dk.torn
  rw [hl]
  simp [runO, play]
theorem WInv.still {d : Dk} {h m : List BA} {rs : Bool} (g : WInv d h m rs) : WInv { d with still := true } h m rs :=
  ⟨{ g.ok with }, g.okh, g.okm, g.few, g.cr⟩

end Go.Proofs.YtadgdikijdmceaaGreat
set_option linter.unusedSimpArgs false
set_option linter.unusedVariables false
set_option maxRecDepth 100000
namespace Go.Proofs.YtadgdikijdmceaaGreat
open Go Go.Fx Go.Proofs Go.Pl

def sumZ (l : List BA) : Nat := (l.map (·.size)).sum
theorem sumZ_app (a b : List BA) : sumZ (a ++ b) = sumZ a + sumZ b := by simp [sumZ]
theorem sumZ_take {l : List BA} {n : Nat} (h : n < l.length) : sumZ (l.take (n + 1)) = sumZ (l.take n) + l[n].size := by
  rw [List.take_succ_eq_append_getElem h, sumZ_app]; simp [sumZ]
theorem sumZ_mem {l : List BA} {x : BA} (h : x ∈ l) : x.size ≤ sumZ l := by
  induction l with
  | nil => cases h
  | cons y l ih =>
    simp only [sumZ, List.map_cons, List.sum_cons] at ih ⊢
    rcases List.mem_cons.1 h with rfl | h
    · omega
    · have := ih h; omega
theorem lenT_sumZ (l : List BA) : lenT l = 12 * l.length + sumZ l := by
  induction l with
  | nil => rfl
  | cons y l ih => simp only [lenT, sumZ, List.map_cons, List.sum_cons, List.length_cons] at ih ⊢; omega

theorem LargeT_spec (u : Value) (A : HProp) (xs : List BA) (hA : Vw A 1 u (xs.map strV)) (hz : ∀ x ∈ xs, x.size ≤ 140737488355328) :
    FSpec Tryz.prog 19 [u] [A] Bool (fun y => y = false → xs.length ≤ 200 ∧ sumZ xs ≤ 32768) (fun y => .bool y) (fun _ => [A]) := by
  have hlen : (xs.map strV).length = xs.length := by simp
  refine spec_intro [] _ Tryz.func19 rfl Tryz.ntmps19 (by rfl) (fun w0 R => ?_)
  refine ok_learn (VwIn.slice (VwIn.here hA)) ?_
  rintro ⟨pu, cu, rfl⟩
  repeat' (first | (refine go_Z ?_; intros) | (refine gs_Z ?_ ?_ <;> (intro hgd; try (simp only [Bool.not_true, Bool.not_false] at hgd))) | (refine gc_Z ?_ ?_ <;> intro _) | fail)
  refine ok_loop' (γ := Nat) (fun n ρ L => n ≤ xs.length ∧ n ≤ 300 ∧ sumZ (xs.take n) ≤ n * 140737488355328 ∧ Knows ρ [(0, .slice pu (xs.map strV).length cu), (3, .int .i64 (sumZ (xs.take n))), (4, .int .i64 n)] ∧ L = [A] ++ R) (fun n => 300 - n) 0 ⟨by omega, by omega, by simp [sumZ], ⟨rfl, rfl, rfl, trivial⟩, rfl⟩ ?_
  rintro n ρ L ⟨hn, hn3, hw, hk, rfl⟩
  refine ok_regs hk ?_
  cases t1 : decide ((n : Int) < ((xs.map strV).length : Int)) with
  | false =>
    have hn' : n = xs.length := by simp at t1; omega
    have hfull : xs.take n = xs := by rw [hn']; exact List.take_length
    rw [hfull] at hk ⊢
    repeat' (first | (refine go_Z ?_; intros) | (refine gs_Z ?_ ?_ <;> (intro hgd; try (simp only [Bool.not_true, Bool.not_false] at hgd))) | (refine gc_Z ?_ ?_ <;> intro _) | fail)
    all_goals (refine rt_Z (y := _) (hrs := Tryz.results19) (hv := by exact rfl) (hφ := ?_))
    all_goals (intro hb; first | (exact absurd hb Bool.noConfusion) | (simp only [decide_eq_false_iff_not, decide_eq_true_eq, hlen] at hgd hb; exact ⟨by omega, by omega⟩))
  | true =>
    have h : n < xs.length := by simp at t1; omega
    cases t2 : decide ((n : Int) < 300) with
    | false =>
      have hbig : decide ((200 : Int) < ((xs.map strV).length : Int)) = true := by simp at t2 ⊢; omega
      repeat' (first | (refine go_Z ?_; intros) | (refine gs_Z ?_ ?_ <;> (intro hgd; try (simp only [Bool.not_true, Bool.not_false] at hgd))) | (refine gc_Z ?_ ?_ <;> intro _) | fail)
      (refine rt_Z (y := _) (hrs := Tryz.results19) (hv := by exact rfl) (hφ := ?_))
      intro hb
      cases hb
    | true =>
      have h3 : n < 300 := by simp at t2; omega
      have hn1 : n < (xs.map strV).length := by simpa using h
      have hx : (xs.map strV)[n]? = some (strV xs[n]) := by rw [List.getElem?_map, List.getElem?_eq_getElem h]; rfl
      have htk := sumZ_take h
      have z1 := hz xs[n] (List.getElem_mem h)
      refine ok_learn (VwIn.base (VwIn.here hA) (by intro e; rw [e] at hn1; simp at hn1)) ?_
      rintro ⟨bu, ou, rfl⟩
      generalize xs[n] = x at hx htk z1
      have hsum : (sumZ (xs.take n) : Int) + (x.size : Int) = (sumZ (xs.take (n + 1)) : Int) := by omega
      repeat' (first | (refine go_Z ?_; intros) | (refine gs_Z ?_ ?_ <;> (intro hgd; try (simp only [Bool.not_true, Bool.not_false] at hgd))) | (refine gc_Z ?_ ?_ <;> intro _) | fail)
      rw [hsum]
      refine cont_back (n + 1) ⟨h, h3, by omega, ⟨rfl, rfl, rfl, trivial⟩, rfl⟩ (by omega)

structure Sw where
  op : Int
  l : List BA
  v : { v : Value // v.oneCell' = true }
  n : Int
  m : Int
def swV (x : Sw) : List Value := [.int .i64 x.op, x.v.1, .int .i64 x.n, .int .i64 x.m]

def sameT : List BA → List BA → Bool
  | [], [] => true
  | x :: xs, y :: ys => (x.toList == y.toList) && sameT xs ys
  | _, _ => false
theorem sameT_len : ∀ {xs ys : List BA}, xs.length ≠ ys.length → sameT xs ys = false
  | [], [], h => absurd rfl h
  | [], _ :: _, _ => rfl
  | _ :: _, [], _ => rfl
  | x :: xs, y :: ys, h => by simp only [sameT, sameT_len (xs := xs) (ys := ys) (by simpa using h), Bool.and_false]
theorem sameT_iff : ∀ {xs ys : List BA}, sameT xs ys = true ↔ xs = ys
  | [], [] => by simp [sameT]
  | [], _ :: _ => by simp [sameT]
  | _ :: _, [] => by simp [sameT]
  | x :: xs, y :: ys => by simp only [sameT, Bool.and_eq_true, eqS_iff, sameT_iff (xs := xs), List.cons.injEq]
theorem sameT_self (xs : List BA) : sameT xs xs = true := sameT_iff.2 rfl

theorem SameT_spec (u v : Value) (A B : HProp) (xs ys : List BA) (hA : Vw A 1 u (xs.map strV)) (hB : Vw B 1 v (ys.map strV)) (hb : xs.length ≤ 4611686018427387904) :
    FSpec Tryz.prog 23 [u, v] [A, B] Unit (fun _ => True) (fun _ => .bool (sameT xs ys)) (fun _ => [A, B]) := by
  have hlm : (xs.map strV).length = xs.length := by simp
  have hlm' : (ys.map strV).length = ys.length := by simp
  refine spec_intro [] _ Tryz.func23 rfl Tryz.ntmps23 (by rfl) (fun w0 R => ?_)
  refine ok_learn (VwIn.slice (VwIn.here hA)) ?_
  rintro ⟨pu, cu, rfl⟩
  refine ok_learn (VwIn.slice (VwIn.there (VwIn.here hB))) ?_
  rintro ⟨pv, cv, rfl⟩
  cases hl : (!decide (((xs.map strV).length : Int) = ((ys.map strV).length : Int))) with
  | true =>
    have e1 : sameT xs ys = false := sameT_len (by simp only [List.length_map, Bool.not_eq_true', decide_eq_false_iff_not] at hl; omega)
    rw [e1]
    repeat' (first | (refine go_Z ?_; intros) | (refine gs_Z ?_ ?_ <;> (intro hgd; try (simp only [Bool.not_true, Bool.not_false] at hgd))) | (refine gc_Z ?_ ?_ <;> intro _) | fail)
    (refine rt_Z (y := ()) (hrs := Tryz.results23) (hv := ?_) (hφ := ?_))
    · rfl
    · trivial
  | false =>
    have e1 : xs.length = ys.length := by simp only [List.length_map, Bool.not_eq_false', decide_eq_true_eq] at hl; omega
    repeat' (first | (refine go_Z ?_; intros) | (refine gs_Z ?_ ?_ <;> (intro hgd; try (simp only [Bool.not_true, Bool.not_false] at hgd))) | (refine gc_Z ?_ ?_ <;> intro _) | fail)
    refine ok_loop' (γ := Nat) (fun n ρ L => n ≤ xs.length ∧ sameT (xs.drop n) (ys.drop n) = sameT xs ys ∧ Knows ρ [(0, .slice pu (xs.map strV).length cu), (1, .slice pv (ys.map strV).length cv), (5, .int .i64 n)] ∧ L = [A, B] ++ R) (fun n => xs.length - n) 0 ⟨Nat.zero_le _, rfl, ⟨rfl, rfl, rfl, trivial⟩, rfl⟩ ?_
    rintro n ρ L ⟨hn, hsm, hk, rfl⟩
    refine ok_regs hk ?_
    rcases Nat.lt_or_ge n xs.length with h | h
    · have t1 : decide ((n : Int) < ((xs.map strV).length : Int)) = true := by simp only [decide_eq_true_eq]; omega
      have hn1 : n < (xs.map strV).length := by omega
      have hn2 : n < (ys.map strV).length := by omega
      have h' : n < ys.length := by omega
      have hx : (xs.map strV)[n]? = some (strV xs[n]) := by rw [List.getElem?_map, List.getElem?_eq_getElem h]; rfl
      have hy : (ys.map strV)[n]? = some (strV ys[n]) := by rw [List.getElem?_map, List.getElem?_eq_getElem h']; rfl
      have hd : sameT xs ys = ((xs[n].toList == ys[n].toList) && sameT (xs.drop (n + 1)) (ys.drop (n + 1))) := by
        rw [← hsm, List.drop_eq_getElem_cons h, List.drop_eq_getElem_cons h']; rfl
      refine ok_learn (VwIn.base (VwIn.here hA) (by intro e; rw [e] at hn1; simp at hn1)) ?_
      rintro ⟨bu, ou, rfl⟩
      refine ok_learn (VwIn.base (VwIn.there (VwIn.here hB)) (by intro e; rw [e] at hn2; simp at hn2)) ?_
      rintro ⟨bv, ov, rfl⟩
      generalize xs[n] = x at hx hd
      generalize ys[n] = y at hy hd
      cases hc : (!(x.toList == y.toList)) with
      | true =>
        have e2 : (x.toList == y.toList) = false := by simpa using hc
        rw [e2, Bool.false_and] at hd
        rw [hd]
        repeat' (first | (refine go_Z ?_; intros) | (refine gs_Z ?_ ?_ <;> (intro hgd; try (simp only [Bool.not_true, Bool.not_false] at hgd))) | (refine gc_Z ?_ ?_ <;> intro _) | fail)
        (refine rt_Z (y := ()) (hrs := Tryz.results23) (hv := ?_) (hφ := ?_))
        · rfl
        · trivial
      | false =>
        have e2 : (x.toList == y.toList) = true := by simpa using hc
        rw [e2, Bool.true_and] at hd
        repeat' (first | (refine go_Z ?_; intros) | (refine gs_Z ?_ ?_ <;> (intro hgd; try (simp only [Bool.not_true, Bool.not_false] at hgd))) | (refine gc_Z ?_ ?_ <;> intro _) | fail)
        refine cont_back (n + 1) ⟨h, hd.symm, ⟨rfl, rfl, rfl, trivial⟩, rfl⟩ (by omega)
    · have t1 : decide ((n : Int) < ((xs.map strV).length : Int)) = false := by simp only [decide_eq_false_iff_not, List.length_map]; omega
      have e2 : sameT xs ys = true := by
        rw [← hsm, List.drop_eq_nil_of_le h, List.drop_eq_nil_of_le (by omega)]; rfl
      rw [e2]
      repeat' (first | (refine go_Z ?_; intros) | (refine gs_Z ?_ ?_ <;> (intro hgd; try (simp only [Bool.not_true, Bool.not_false] at hgd))) | (refine gc_Z ?_ ?_ <;> intro _) | fail)
      (refine rt_Z (y := ()) (hrs := Tryz.results23) (hv := ?_) (hφ := ?_))
      · rfl
      · trivial

def begB (xs ys : List BA) : Bool := decide ((xs.length : Int) ≤ (ys.length : Int)) && sameT xs (ys.take xs.length)
def plainV (v : Value) : Prop := ∃ p len cap, v = .slice p len cap ∧ len ≤ cap ∧ ∀ q, p = some q → q.spot = none
end Go.Proofs.YtadgdikijdmceaaGreat
