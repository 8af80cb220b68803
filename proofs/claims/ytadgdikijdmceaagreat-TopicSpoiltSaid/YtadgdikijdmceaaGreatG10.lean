/- Texts merged: TpE TpF TpG. -/
import Derived.Test.YtadgdikijdmceaaGreatG4
set_option linter.unusedSimpArgs false
set_option linter.unusedVariables false
set_option maxRecDepth 100000
namespace Go.Proofs.YtadgdikijdmceaaGreat
open Go Go.Fx Go.Proofs Go.Pl

theorem plV_get (l : List BA) (a k : Nat) (r : BA) (h : l[k]? = some r) : (plV l a)[k]? = some [.int .i64 ((a + lenT (l.take k) : Nat) : Int), .int .i64 ((12 + r.size : Nat) : Int)] := by
  induction l generalizing a k with
  | nil => simp at h
  | cons s l ih =>
    cases k with
    | zero =>
      obtain rfl : s = r := by simpa using h
      simp [plV, lenT]
    | succ k =>
      rw [plV, List.getElem?_cons_succ, ih _ _ (by simpa using h)]
      have : lenT (s :: l.take k) = 12 + s.size + lenT (l.take k) := by simp [lenT]
      rw [List.take_succ_cons, this, Nat.add_assoc]
theorem smV_get (l : List BA) (k : Nat) (r : BA) (h : l[k]? = some r) : (smV l)[k]? = some [.int .u32 (sumS r)] := by unfold smV; rw [List.getElem?_map, h]; rfl
def getM (r : BA) : List BA × Nat × Int → BA × Int
  | ([s], g, e) => if e = 0 ∧ g = 12 + r.size ∧ sumS s = sumS r then (s, 0) else (⟨#[]⟩, 71)
  | _ => (⟨#[]⟩, 71)
theorem getM_bad (r : BA) (l : List BA) (g : Nat) (e : Int) (h : e ≠ 0 ∨ l.length ≠ 1 ∨ g ≠ 12 + r.size) : getM r (l, g, e) = (⟨#[]⟩, 71) := by
  match l with
  | [] => rfl
  | [s] =>
    show (if e = 0 ∧ g = 12 + r.size ∧ sumS s = sumS r then (s, (0 : Int)) else (⟨#[]⟩, 71)) = _
    rw [if_neg]
    rintro ⟨h1, h2, _⟩
    rcases h with h | h | h
    · exact h h1
    · exact h rfl
    · exact h h2
  | _ :: _ :: _ => rfl
def getT (d : Dk) (file : BA) (a : Nat) (r : BA) : BA × Int :=
  if (d.read file (a : Int) ((12 + r.size : Nat) : Int)).2 ≠ 0 then (⟨#[]⟩, (d.read file (a : Int) ((12 + r.size : Nat) : Int)).2) else
  getM r (scanOf (d.read file (a : Int) ((12 + r.size : Nat) : Int)).1)
set_option maxHeartbeats 4000000 in
theorem tget_spec (tb b : Nat) (name : BA) (seg : Int) (vs : Value) (fault : Int) (d : Dk) (x : Sm) (k : Nat) (r : BA) (A : HProp) (hx : SgR A x) (hk : x.s.recs[k]? = some r) (hb : lenT x.s.recs ≤ 900000000) (hn : x.s.file.size ≤ 4611686018427387904) :
    FSpec Tryz.prog 39 [.pointer (some ⟨tb, 0, none⟩), .agg (sgV x).toArray, .int .i64 (k : Int)] [tpP tb b name seg vs fault, diskP b d, A] HProp (fun P => Ext A P)
      (fun _ => .tuple #[.string (getT d x.s.file (lenT (x.s.recs.take k)) r).1, .int .i64 (getT d x.s.file (lenT (x.s.recs.take k)) r).2]) (fun P => [tpP tb b name seg vs fault, diskP b d, P]) := by
  obtain ⟨⟨file, first, recs⟩, ⟨pv, hpv⟩, ⟨sv, hsv⟩⟩ := x
  dsimp only at hb hn hk
  obtain ⟨h1, h2⟩ := hx
  dsimp only at h1 h2
  have hkl : k < recs.length := by
    rcases Nat.lt_or_ge k recs.length with h | h
    · exact h
    · rw [List.getElem?_eq_none h] at hk; cases hk
  have hpk := plV_get recs 0 k r hk
  have hsk := smV_get recs k r hk
  rw [Nat.zero_add] at hpk
  have lp := plV_len recs 0
  have ls := smV_len recs
  have hkp : k < (plV recs 0).length := by omega
  have hks : k < (smV recs).length := by omega
  have hlt := lenT_take recs (k + 1)
  have hls := lenT_snoc (recs.take k) r
  have hsp : recs.take (k + 1) = recs.take k ++ [r] := by rw [List.take_add_one, hk]; rfl
  have hnl := len_lenT' recs
  rw [← hsp] at hls
  dsimp only
  generalize lenT (recs.take k) = at' at hpk hls
  refine fspec_lrnT (fun R hh s => (VwIn.slice (VwIn.there (VwIn.there (VwIn.here h1)))) hh s) ?_
  rintro ⟨pp, cp, rfl⟩
  refine fspec_lrnT (fun R hh s => (VwIn.slice (VwIn.there (VwIn.there (VwIn.here h2)))) hh s) ?_
  rintro ⟨ps, cs, rfl⟩
  refine fspec_lrnT (fun R hh s => (VwIn.base (n := 2) (p := pp) (cap := cp) (VwIn.there (VwIn.there (VwIn.here h1))) (by intro e; rw [e] at hkp; simp at hkp)) hh s) ?_
  rintro ⟨bp, op, rfl⟩
  refine fspec_lrnT (fun R hh s => (VwIn.base (n := 1) (p := ps) (cap := cs) (VwIn.there (VwIn.there (VwIn.here h2))) (by intro e; rw [e] at hks; simp at hks)) hh s) ?_
  rintro ⟨bs, os, rfl⟩
  have hr := read_spec b d file (at' : Int) ((12 + r.size : Nat) : Int) hn
  have hz : ((d.read file (at' : Int) ((12 + r.size : Nat) : Int)).1.size : Int) ≤ ((12 + r.size : Nat) : Int) := by
    unfold Dk.read
    split
    · show ((0 : Nat) : Int) ≤ _; omega
    · split
      · show ((0 : Nat) : Int) ≤ _; omega
      · split
        · show ((0 : Nat) : Int) ≤ _; omega
        · unfold cut
          rw [ByteArray.size_extract]
          split <;> split <;> omega
  have hS := Scan_spec (d.read file (at' : Int) ((12 + r.size : Nat) : Int)).1 (by omega)
  have hS := fspec_rowpool (vw := fun v : V1s => v.1) hS A
  unfold getT
  dsimp only [sgV]
  generalize d.read file (at' : Int) ((12 + r.size : Nat) : Int) = rd at hr hz hS ⊢
  obtain ⟨s, e⟩ := rd
  dsimp only at hr hz hS ⊢
  have hsl := scanF_len s.size s
  rw [show scanF s.size s = scanOf s from rfl] at hsl
  generalize scanOf s = sc at hS hsl ⊢
  obtain ⟨l, good, es⟩ := sc
  dsimp only at hS hsl ⊢
  have ll : (l.map strV).length = l.length := by simp
  cases t1 : decide (e = 0) with
  | false =>
    have t2 : (!decide (e = 0)) = true := by rw [t1]; rfl
    have t3 := of_decide_eq_false t1
    rw [if_pos t3]
    refine spec_intro [] _ Tryz.func39 rfl Tryz.ntmps39 (by rfl) (fun w0 R => ?_)
    repeat' (first | (refine go_Y ?_; intros) | (refine gs_Y ?_ ?_ <;> (intro hgd; try (simp only [Bool.not_true, Bool.not_false] at hgd))) | (refine gc_Y ?_ ?_ <;> intro _) | fail)
    refine cl_Y (hr) ?_
    intro _ _
    repeat' (first | (refine go_Y ?_; intros) | (refine gs_Y ?_ ?_ <;> (intro hgd; try (simp only [Bool.not_true, Bool.not_false] at hgd))) | (refine gc_Y ?_ ?_ <;> intro _) | fail)
    (refine rt_Y (y := A) (hrs := Tryz.results39) (hv := ?_) (hφ := ?_))
    · rfl
    · exact .refl _
  | true =>
    have t2 : (!decide (e = 0)) = false := by rw [t1]; rfl
    obtain rfl := of_decide_eq_true t1
    rw [if_neg (fun h => h rfl)]
    cases t3 : decide (es = 0) with
    | false =>
      have t4 : (!decide (es = 0)) = true := by rw [t3]; rfl
      rw [getM_bad r l good es (.inl (of_decide_eq_false t3))]
      refine spec_intro [] _ Tryz.func39 rfl Tryz.ntmps39 (by rfl) (fun w0 R => ?_)
      repeat' (first | (refine go_Y ?_; intros) | (refine gs_Y ?_ ?_ <;> (intro hgd; try (simp only [Bool.not_true, Bool.not_false] at hgd))) | (refine gc_Y ?_ ?_ <;> intro _) | fail)
      refine cl_Y (hr) ?_
      intro _ _
      repeat' (first | (refine go_Y ?_; intros) | (refine gs_Y ?_ ?_ <;> (intro hgd; try (simp only [Bool.not_true, Bool.not_false] at hgd))) | (refine gc_Y ?_ ?_ <;> intro _) | fail)
      refine cl_Y (hS) ?_
      rintro ⟨⟨v, hv⟩, P1⟩ ⟨_, g1, w1⟩
      repeat' (first | (refine go_Y ?_; intros) | (refine gs_Y ?_ ?_ <;> (intro hgd; try (simp only [Bool.not_true, Bool.not_false] at hgd))) | (refine gc_Y ?_ ?_ <;> intro _) | fail)
      (refine rt_Y (y := P1) (hrs := Tryz.results39) (hv := ?_) (hφ := ?_))
      · rfl
      · exact g1
    | true =>
      have t4 : (!decide (es = 0)) = false := by rw [t3]; rfl
      obtain rfl := of_decide_eq_true t3
      cases t5 : decide (((l.map strV).length : Int) = 1) with
      | false =>
        have t6 : (!decide (((l.map strV).length : Int) = 1)) = true := by rw [t5]; rfl
        rw [getM_bad r l good 0 (.inr (.inl (by have := of_decide_eq_false t5; omega)))]
        refine spec_intro [] _ Tryz.func39 rfl Tryz.ntmps39 (by rfl) (fun w0 R => ?_)
        repeat' (first | (refine go_Y ?_; intros) | (refine gs_Y ?_ ?_ <;> (intro hgd; try (simp only [Bool.not_true, Bool.not_false] at hgd))) | (refine gc_Y ?_ ?_ <;> intro _) | fail)
        refine cl_Y (hr) ?_
        intro _ _
        repeat' (first | (refine go_Y ?_; intros) | (refine gs_Y ?_ ?_ <;> (intro hgd; try (simp only [Bool.not_true, Bool.not_false] at hgd))) | (refine gc_Y ?_ ?_ <;> intro _) | fail)
        refine cl_Y (hS) ?_
        rintro ⟨⟨v, hv⟩, P1⟩ ⟨_, g1, w1⟩
        repeat' (first | (refine go_Y ?_; intros) | (refine gs_Y ?_ ?_ <;> (intro hgd; try (simp only [Bool.not_true, Bool.not_false] at hgd))) | (refine gc_Y ?_ ?_ <;> intro _) | fail)
        (refine rt_Y (y := P1) (hrs := Tryz.results39) (hv := ?_) (hφ := ?_))
        · rfl
        · exact g1
      | true =>
        have t6 : (!decide (((l.map strV).length : Int) = 1)) = false := by rw [t5]; rfl
        cases t7 : decide ((good : Int) = ((12 + r.size : Nat) : Int)) with
        | false =>
          have t8 : (!decide ((good : Int) = ((12 + r.size : Nat) : Int))) = true := by rw [t7]; rfl
          rw [getM_bad r l good 0 (.inr (.inr (by have := of_decide_eq_false t7; omega)))]
          refine spec_intro [] _ Tryz.func39 rfl Tryz.ntmps39 (by rfl) (fun w0 R => ?_)
          repeat' (first | (refine go_Y ?_; intros) | (refine gs_Y ?_ ?_ <;> (intro hgd; try (simp only [Bool.not_true, Bool.not_false] at hgd))) | (refine gc_Y ?_ ?_ <;> intro _) | fail)
          refine cl_Y (hr) ?_
          intro _ _
          repeat' (first | (refine go_Y ?_; intros) | (refine gs_Y ?_ ?_ <;> (intro hgd; try (simp only [Bool.not_true, Bool.not_false] at hgd))) | (refine gc_Y ?_ ?_ <;> intro _) | fail)
          refine cl_Y (hS) ?_
          rintro ⟨⟨v, hv⟩, P1⟩ ⟨_, g1, w1⟩
          repeat' (first | (refine go_Y ?_; intros) | (refine gs_Y ?_ ?_ <;> (intro hgd; try (simp only [Bool.not_true, Bool.not_false] at hgd))) | (refine gc_Y ?_ ?_ <;> intro _) | fail)
          (refine rt_Y (y := P1) (hrs := Tryz.results39) (hv := ?_) (hφ := ?_))
          · rfl
          · exact g1
        | true =>
          have t8 : (!decide ((good : Int) = ((12 + r.size : Nat) : Int))) = false := by rw [t7]; rfl
          have hg : good = 12 + r.size := by have := of_decide_eq_true t7; omega
          have h0 : ∃ q, l = [q] := by
            have : l.length = 1 := by have := of_decide_eq_true t5; omega
            match l, this with
            | [q], _ => exact ⟨q, rfl⟩
          obtain ⟨q, hq⟩ := h0
          have hx0 : (l.map strV)[0]? = some [.string q] := by rw [hq]; rfl
          have hq0 : 0 < (l.map strV).length := by rw [hq]; exact Nat.one_pos
          have hqz : q.size ≤ 1000000000 := by
            have h9 : lenT [q] = 12 + q.size := by simp [lenT]
            have := hsl.1
            rw [hq, h9] at this
            omega
          have hsum := sum_spec q (by omega)
          have hgm : getM r (l, good, 0) = if sumS q = sumS r then (q, 0) else (⟨#[]⟩, 71) := by
            rw [hq]
            show (if (0 : Int) = 0 ∧ good = 12 + r.size ∧ sumS q = sumS r then (q, (0 : Int)) else (⟨#[]⟩, 71)) = _
            by_cases h : sumS q = sumS r
            · rw [if_pos ⟨rfl, hg, h⟩, if_pos h]
            · rw [if_neg (fun k => h k.2.2), if_neg h]
          rw [hgm]
          clear hgm
          cases t9 : decide (sumS q = sumS r) with
          | false =>
            have t10 : (!decide (sumS q = sumS r)) = true := by rw [t9]; rfl
            rw [if_neg (of_decide_eq_false t9)]
            refine spec_intro [] _ Tryz.func39 rfl Tryz.ntmps39 (by rfl) (fun w0 R => ?_)
            repeat' (first | (refine go_Y ?_; intros) | (refine gs_Y ?_ ?_ <;> (intro hgd; try (simp only [Bool.not_true, Bool.not_false] at hgd))) | (refine gc_Y ?_ ?_ <;> intro _) | fail)
            refine cl_Y (hr) ?_
            intro _ _
            repeat' (first | (refine go_Y ?_; intros) | (refine gs_Y ?_ ?_ <;> (intro hgd; try (simp only [Bool.not_true, Bool.not_false] at hgd))) | (refine gc_Y ?_ ?_ <;> intro _) | fail)
            refine cl_Y (hS) ?_
            rintro ⟨⟨v, hv⟩, P1⟩ ⟨_, g1, w1⟩
            repeat' (first | (refine go_Y ?_; intros) | (refine gs_Y ?_ ?_ <;> (intro hgd; try (simp only [Bool.not_true, Bool.not_false] at hgd))) | (refine gc_Y ?_ ?_ <;> intro _) | fail)
            rename_i b4 b8 _ _ _
            dsimp only at w1
            have h1' := g1.vw h1
            have h2' := g1.vw h2
            refine ok_learn (VwIn.slice (VwIn.here w1)) ?_
            rintro ⟨pl, cl, rfl⟩
            refine ok_learn (VwIn.base (n := 1) (p := pl) (cap := cl) (VwIn.here w1) (by intro e; rw [e] at hq0; simp at hq0)) ?_
            rintro ⟨bl, ol, rfl⟩
            refine ok_drawL (cv := []) [3] ([pts b4 (.cells [.string file, .int .u64 (first : Int), .slice (some ⟨bp, op, none⟩) (plV recs 0).length cp, .int .i64 (lenT recs : Int), .slice (some ⟨bs, os, none⟩) (smV recs).length cs].toArray 76), P1]) (takeD) (by kernel_rfl) rfl (by decide +kernel) ?_
            repeat' (first | (refine go_Y ?_; intros) | (refine gs_Y ?_ ?_ <;> (intro hgd; try (simp only [Bool.not_true, Bool.not_false] at hgd))) | (refine gc_Y ?_ ?_ <;> intro _) | fail)
            refine clN_Y (hsum) ?_
            intro _ _
            repeat' (first | (refine go_Y ?_; intros) | (refine gs_Y ?_ ?_ <;> (intro hgd; try (simp only [Bool.not_true, Bool.not_false] at hgd))) | (refine gc_Y ?_ ?_ <;> intro _) | fail)
            (refine rt_Y (y := P1) (hrs := Tryz.results39) (hv := ?_) (hφ := ?_))
            · rfl
            · exact g1
          | true =>
            have t10 : (!decide (sumS q = sumS r)) = false := by rw [t9]; rfl
            rw [if_pos (of_decide_eq_true t9)]
            refine spec_intro [] _ Tryz.func39 rfl Tryz.ntmps39 (by rfl) (fun w0 R => ?_)
            repeat' (first | (refine go_Y ?_; intros) | (refine gs_Y ?_ ?_ <;> (intro hgd; try (simp only [Bool.not_true, Bool.not_false] at hgd))) | (refine gc_Y ?_ ?_ <;> intro _) | fail)
            refine cl_Y (hr) ?_
            intro _ _
            repeat' (first | (refine go_Y ?_; intros) | (refine gs_Y ?_ ?_ <;> (intro hgd; try (simp only [Bool.not_true, Bool.not_false] at hgd))) | (refine gc_Y ?_ ?_ <;> intro _) | fail)
            refine cl_Y (hS) ?_
            rintro ⟨⟨v, hv⟩, P1⟩ ⟨_, g1, w1⟩
            repeat' (first | (refine go_Y ?_; intros) | (refine gs_Y ?_ ?_ <;> (intro hgd; try (simp only [Bool.not_true, Bool.not_false] at hgd))) | (refine gc_Y ?_ ?_ <;> intro _) | fail)
            rename_i b4 b8 _ _ _
            dsimp only at w1
            have h1' := g1.vw h1
            have h2' := g1.vw h2
            refine ok_learn (VwIn.slice (VwIn.here w1)) ?_
            rintro ⟨pl, cl, rfl⟩
            refine ok_learn (VwIn.base (n := 1) (p := pl) (cap := cl) (VwIn.here w1) (by intro e; rw [e] at hq0; simp at hq0)) ?_
            rintro ⟨bl, ol, rfl⟩
            refine ok_drawL (cv := []) [3] ([pts b4 (.cells [.string file, .int .u64 (first : Int), .slice (some ⟨bp, op, none⟩) (plV recs 0).length cp, .int .i64 (lenT recs : Int), .slice (some ⟨bs, os, none⟩) (smV recs).length cs].toArray 76), P1]) (takeD) (by kernel_rfl) rfl (by decide +kernel) ?_
            repeat' (first | (refine go_Y ?_; intros) | (refine gs_Y ?_ ?_ <;> (intro hgd; try (simp only [Bool.not_true, Bool.not_false] at hgd))) | (refine gc_Y ?_ ?_ <;> intro _) | fail)
            refine clN_Y (hsum) ?_
            intro _ _
            repeat' (first | (refine go_Y ?_; intros) | (refine gs_Y ?_ ?_ <;> (intro hgd; try (simp only [Bool.not_true, Bool.not_false] at hgd))) | (refine gc_Y ?_ ?_ <;> intro _) | fail)
            (refine rt_Y (y := P1) (hrs := Tryz.results39) (hv := ?_) (hφ := ?_))
            · rfl
            · exact g1
end Go.Proofs.YtadgdikijdmceaaGreat
set_option linter.unusedSimpArgs false
set_option linter.unusedVariables false
set_option maxRecDepth 100000
namespace Go.Proofs.YtadgdikijdmceaaGreat
open Go Go.Fx Go.Proofs Go.Pl

def readX (d : Dk) (off : Nat) (most : Int) (file : BA) (first : Nat) : List BA → Nat → Nat → List BA → List BA × Int × Bool
  | [], _, _, acc => (acc, 0, false)
  | r :: t, k, a, acc =>
    if first + k < off then readX d off most file first t (k + 1) (a + (12 + r.size)) acc else
    if most ≤ (acc.length : Int) then (acc, 0, true) else
    if (getT d file a r).2 ≠ 0 then ([], (getT d file a r).2, true) else
    readX d off most file first t (k + 1) (a + (12 + r.size)) (acc ++ [(getT d file a r).1])
def readL (d : Dk) (off : Nat) (most : Int) : List Sg → List BA → List BA × Int
  | [], acc => (acc, 0)
  | x :: l, acc =>
    if (readX d off most x.file x.first x.recs 0 0 acc).2.2 = true then ((readX d off most x.file x.first x.recs 0 0 acc).1, (readX d off most x.file x.first x.recs 0 0 acc).2.1) else
    readL d off most l (readX d off most x.file x.first x.recs 0 0 acc).1
def readS (d : Dk) (l : List Sg) (off : Nat) (most : Int) : List BA × Int :=
  if off < firstS l ∨ nextS l < off then ([], 3) else readL d off most l []
structure SgB (x : Sg) : Prop where
  z : lenT x.recs ≤ 900000000
  f : x.file.size ≤ 4611686018427387904
  n : x.first ≤ 1000000000000000
  c : x.recs.length ≤ 1000000
set_option maxHeartbeats 8000000 in
theorem tRead_spec (tb b : Nat) (name : BA) (seg : Int) (vs : Value) (fault : Int) (d : Dk) (l : List Sm) (off : Nat) (most : Int) (A : HProp) (h : SgsR A vs l) (hl : l.length ≤ 1000000) (hb : nextS (l.map Sm.s) ≤ 1000000000000000) (hB : ∀ x ∈ l, SgB x.s) :
    FSpec Tryz.prog 11 [.pointer (some ⟨tb, 0, none⟩), .int .u64 (off : Int), .int .i64 most] [tpP tb b name seg vs fault, diskP b d, A] (V1s × HProp) (fun y => Ext A y.2)
      (fun y => .tuple #[y.1.1, .int .i64 (readS d (l.map Sm.s) off most).2]) (fun y => [row 9 1 y.1.1 ((readS d (l.map Sm.s) off most).1.map strV), tpP tb b name seg vs fault, diskP b d, y.2]) := by
  have hF := tFirst_spec tb b name seg vs fault l A h (by omega)
  have hN := tNext_spec tb b name seg vs fault l A h (by omega) hb
  have hv := h.vw
  have ll : (l.map sgV).length = l.length := by simp
  refine fspec_lrnT (fun R hh s => (VwIn.slice (VwIn.there (VwIn.there (VwIn.here hv)))) hh s) ?_
  rintro ⟨pu, cu, rfl⟩
  unfold readS
  generalize hfi : firstS (l.map Sm.s) = fi at hF ⊢
  generalize hne : nextS (l.map Sm.s) = ne at hN hb ⊢
  cases t1 : decide ((off : Int) < (fi : Int)) with
  | true =>
    rw [if_pos (.inl (by have := of_decide_eq_true t1; omega))]
    refine spec_intro [] _ Tryz.func11 rfl Tryz.ntmps11 (by rfl) (fun w0 R => ?_)
    refine ok_map (fun _ h => nilRow (e := 9) (n := 1) h) ?_
    repeat' (first | (refine go_Y ?_; intros) | (refine gs_Y ?_ ?_ <;> (intro hgd; try (simp only [Bool.not_true, Bool.not_false] at hgd))) | (refine gc_Y ?_ ?_ <;> intro _) | fail)
    refine cl_Y (hF) ?_
    intro _ _
    repeat' (first | (refine go_Y ?_; intros) | (refine gs_Y ?_ ?_ <;> (intro hgd; try (simp only [Bool.not_true, Bool.not_false] at hgd))) | (refine gc_Y ?_ ?_ <;> intro _) | fail)
    (refine rt_Y (y := (⟨.slice none 0 0, rfl⟩, A)) (hrs := Tryz.results11) (hv := ?_) (hφ := ?_))
    · rfl
    · exact .refl _
  | false =>
    cases t2 : decide ((ne : Int) < (off : Int)) with
    | true =>
      rw [if_pos (.inr (by have := of_decide_eq_true t2; omega))]
      refine spec_intro [] _ Tryz.func11 rfl Tryz.ntmps11 (by rfl) (fun w0 R => ?_)
      refine ok_map (fun _ h => nilRow (e := 9) (n := 1) h) ?_
      repeat' (first | (refine go_Y ?_; intros) | (refine gs_Y ?_ ?_ <;> (intro hgd; try (simp only [Bool.not_true, Bool.not_false] at hgd))) | (refine gc_Y ?_ ?_ <;> intro _) | fail)
      refine cl_Y (hF) ?_
      intro _ _
      repeat' (first | (refine go_Y ?_; intros) | (refine gs_Y ?_ ?_ <;> (intro hgd; try (simp only [Bool.not_true, Bool.not_false] at hgd))) | (refine gc_Y ?_ ?_ <;> intro _) | fail)
      refine cl_Y (hN) ?_
      intro _ _
      repeat' (first | (refine go_Y ?_; intros) | (refine gs_Y ?_ ?_ <;> (intro hgd; try (simp only [Bool.not_true, Bool.not_false] at hgd))) | (refine gc_Y ?_ ?_ <;> intro _) | fail)
      (refine rt_Y (y := (⟨.slice none 0 0, rfl⟩, A)) (hrs := Tryz.results11) (hv := ?_) (hφ := ?_))
      · rfl
      · exact .refl _
    | false =>
      rw [if_neg (by have := of_decide_eq_false t1; have := of_decide_eq_false t2; omega)]
      refine spec_intro [] _ Tryz.func11 rfl Tryz.ntmps11 (by rfl) (fun w0 R => ?_)
      refine ok_map (fun _ h => nilRow (e := 9) (n := 1) h) ?_
      repeat' (first | (refine go_Y ?_; intros) | (refine gs_Y ?_ ?_ <;> (intro hgd; try (simp only [Bool.not_true, Bool.not_false] at hgd))) | (refine gc_Y ?_ ?_ <;> intro _) | fail)
      refine cl_Y (hF) ?_
      intro _ _
      repeat' (first | (refine go_Y ?_; intros) | (refine gs_Y ?_ ?_ <;> (intro hgd; try (simp only [Bool.not_true, Bool.not_false] at hgd))) | (refine gc_Y ?_ ?_ <;> intro _) | fail)
      refine cl_Y (hN) ?_
      intro _ _
      repeat' (first | (refine go_Y ?_; intros) | (refine gs_Y ?_ ?_ <;> (intro hgd; try (simp only [Bool.not_true, Bool.not_false] at hgd))) | (refine gc_Y ?_ ?_ <;> intro _) | fail)
      generalize hres : readL d off most (l.map Sm.s) [] = res
      refine ok_map (L' := [row 9 1 (.slice none 0 0) (([] : List BA).map strV), tpP tb b name seg (.slice pu (l.map sgV).length cu) fault, diskP b d, A] ++ R) entD ?_
      refine ok_loop' (γ := Nat × List BA × V1s × HProp) (fun g ρ L => g.1 ≤ l.length ∧ Ext A g.2.2.2 ∧ g.2.1.length ≤ 1000000 * g.1 ∧ readL d off most ((l.map Sm.s).drop g.1) g.2.1 = res ∧
          Knows ρ [(0, .pointer (some ⟨tb, 0, none⟩)), (1, .int .u64 (off : Int)), (2, .int .i64 most), (6, g.2.2.1.1), (28, .slice pu (l.map sgV).length cu), (29, .int .i64 (l.map sgV).length), (30, .int .i64 g.1)] ∧
          L = [row 9 1 g.2.2.1.1 (g.2.1.map strV), tpP tb b name seg (.slice pu (l.map sgV).length cu) fault, diskP b d, g.2.2.2] ++ R) (fun g => l.length - g.1) (0, [], ⟨.slice none 0 0, rfl⟩, A) ⟨Nat.zero_le _, .refl _, Nat.le_refl _, hres, ⟨rfl, rfl, rfl, rfl, rfl, rfl, rfl, trivial⟩, rfl⟩ ?_
      · rintro ⟨j, acc, ⟨v, hvv⟩, P⟩ ρ L ⟨hj, hA, hac, hrj, hk, rfl⟩
        dsimp only at hj hA hac hrj hk ⊢
        refine ok_regs hk ?_
        have hv' := hA.vw hv
        cases t3 : decide ((j : Int) < ((l.map sgV).length : Int)) with
        | false =>
          have hje : j = l.length := by have := of_decide_eq_false t3; omega
          subst hje
          rw [List.drop_eq_nil_of_le (by simp)] at hrj
          subst hrj
          repeat' (first | (refine go_Y ?_; intros) | (refine gs_Y ?_ ?_ <;> (intro hgd; try (simp only [Bool.not_true, Bool.not_false] at hgd))) | (refine gc_Y ?_ ?_ <;> intro _) | fail)
          (refine rt_Y (y := (⟨v, hvv⟩, P)) (hrs := Tryz.results11) (hv := ?_) (hφ := ?_))
          · rfl
          · exact hA
        | true =>
          have hj0 : j < l.length := by have := of_decide_eq_true t3; omega
          have hin : j < (l.map sgV).length := by omega
          have hx : (l.map sgV)[j]? = some (sgV l[j]) := by rw [List.getElem?_map, List.getElem?_eq_getElem hj0]; rfl
          have hsg := (h.ext hA).sg _ (List.getElem_mem hj0)
          have hBx := hB _ (List.getElem_mem hj0)
          rw [List.drop_eq_getElem_cons (by simpa using hj0), List.getElem_map] at hrj
          generalize l[j] = x at hx hsg hBx hrj
          obtain ⟨⟨file, first, recs⟩, ⟨pv, hpv⟩, ⟨sv, hsv⟩⟩ := x
          have hsg' := hsg
          obtain ⟨h1, h2⟩ := hsg'
          obtain ⟨z1, z2, z3, z4⟩ := hBx
          dsimp only at h1 h2 z1 z2 z3 z4 hrj
          dsimp only [sgV] at hx
          refine ok_learn (VwIn.base (n := 5) (p := pu) (len := (l.map sgV).length) (cap := cu) (xs := l.map sgV) (VwIn.there (VwIn.there (VwIn.there (VwIn.here hv')))) (by intro e; rw [e] at hin; simp at hin)) ?_
          rintro ⟨bu, ou, rfl⟩
          refine ok_learn (VwIn.slice (VwIn.there (VwIn.there (VwIn.there (VwIn.here h1))))) ?_
          rintro ⟨pp, cp, rfl⟩
          refine ok_learn (VwIn.slice (VwIn.there (VwIn.there (VwIn.there (VwIn.here h2))))) ?_
          rintro ⟨ps, cs, rfl⟩
          have lp := plV_len recs 0
          repeat' (first | (refine go_Y ?_; intros) | (refine gs_Y ?_ ?_ <;> (intro hgd; try (simp only [Bool.not_true, Bool.not_false] at hgd))) | (refine gc_Y ?_ ?_ <;> intro _) | fail)
          rename_i b9
          unfold readL at hrj
          dsimp only at hrj
          generalize hR0 : readX d off most file first recs 0 0 acc = R0 at hrj
          refine ok_map (L' := [pts b9 (.cells [.string file, .int .u64 (first : Int), .slice pp (plV recs 0).length cp, .int .i64 (lenT recs : Int), .slice ps (smV recs).length cs].toArray 76), row 9 1 v (acc.map strV), tpP tb b name seg (.slice (some ⟨bu, ou, none⟩) (l.map sgV).length cu) fault, diskP b d, P] ++ R) entD ?_
          refine ok_loop' (γ := Nat × List BA × V1s × HProp) (fun g ρ L => g.1 ≤ recs.length ∧ Ext P g.2.2.2 ∧ g.2.1.length ≤ 1000000 * j + g.1 ∧ readX d off most file first (recs.drop g.1) g.1 (lenT (recs.take g.1)) g.2.1 = R0 ∧
              Knows ρ [(0, .pointer (some ⟨tb, 0, none⟩)), (1, .int .u64 (off : Int)), (2, .int .i64 most), (6, g.2.2.1.1), (9, .pointer (some ⟨b9, 0, none⟩)), (28, .slice (some ⟨bu, ou, none⟩) (l.map sgV).length cu), (29, .int .i64 (l.map sgV).length), (30, .int .i64 j), (36, .int .i64 (plV recs 0).length), (37, .int .i64 g.1)] ∧
              L = [pts b9 (.cells [.string file, .int .u64 (first : Int), .slice pp (plV recs 0).length cp, .int .i64 (lenT recs : Int), .slice ps (smV recs).length cs].toArray 76), row 9 1 g.2.2.1.1 (g.2.1.map strV), tpP tb b name seg (.slice (some ⟨bu, ou, none⟩) (l.map sgV).length cu) fault, diskP b d, g.2.2.2] ++ R) (fun g => recs.length - g.1) (0, acc, ⟨v, hvv⟩, P) ⟨Nat.zero_le _, .refl _, hac, hR0, ⟨rfl, rfl, rfl, rfl, rfl, rfl, rfl, rfl, rfl, rfl, trivial⟩, rfl⟩ ?_
          rintro ⟨k, ac, ⟨u, hu⟩, P1⟩ ρ L ⟨hk0, hA1, hac1, hrk, hkn, rfl⟩
          dsimp only at hk0 hA1 hac1 hrk hkn ⊢
          refine ok_regs hkn ?_
          cases t4 : decide ((k : Int) < ((plV recs 0).length : Int)) with
          | false =>
            have hke : k = recs.length := by have := of_decide_eq_false t4; omega
            subst hke
            rw [List.drop_eq_nil_of_le (Nat.le_refl _)] at hrk
            unfold readX at hrk
            rw [← hrk] at hrj
            dsimp only at hrj
            rw [if_neg (by decide)] at hrj
            repeat' (first | (refine go_Y ?_; intros) | (refine gs_Y ?_ ?_ <;> (intro hgd; try (simp only [Bool.not_true, Bool.not_false] at hgd))) | (refine gc_Y ?_ ?_ <;> intro _) | fail)
            refine cont_map (L' := [row 9 1 u (ac.map strV), tpP tb b name seg (.slice (some ⟨bu, ou, none⟩) (l.map sgV).length cu) fault, diskP b d, P1] ++ R) entD ?_
            exact cont_back (j + 1, ac, ⟨u, hu⟩, P1) ⟨hj0, hA.trans hA1, by dsimp only; omega, hrj, ⟨rfl, rfl, rfl, rfl, rfl, rfl, rfl, trivial⟩, rfl⟩ (by show l.length - (j + 1) < l.length - j; omega)
          | true =>
            have hkl : k < recs.length := by have := of_decide_eq_true t4; omega
            have hrg : recs[k]? = some recs[k] := List.getElem?_eq_getElem hkl
            have htk : lenT (recs.take (k + 1)) = lenT (recs.take k) + (12 + recs[k].size) := by rw [List.take_succ_eq_append_getElem hkl]; exact lenT_snoc _ _
            rw [List.drop_eq_getElem_cons hkl] at hrk
            unfold readX at hrk
            rw [← htk] at hrk
            have hw : IntKind.u64.wrap (k : Int) = (k : Int) := tp_wrap64 _ (by omega)
            have hw2 : IntKind.u64.wrap (arith BinOp.add (first : Int) (k : Int)) = ((first + k : Nat) : Int) := tp_wrap64 (first + k) (by omega)
            cases t5 : decide (IntKind.u64.wrap (arith BinOp.add (first : Int) (k : Int)) < (off : Int)) with
            | true =>
              have t5' := of_decide_eq_true t5
              rw [hw2] at t5'
              rw [if_pos (by omega)] at hrk
              repeat' (first | (refine go_Y ?_; intros) | (refine gs_Y ?_ ?_ <;> (intro hgd; try (simp only [Bool.not_true, Bool.not_false] at hgd))) | (refine gc_Y ?_ ?_ <;> intro _) | fail)
              exact cont_back (k + 1, ac, ⟨u, hu⟩, P1) ⟨hkl, hA1, by dsimp only; omega, hrk, ⟨rfl, rfl, rfl, rfl, rfl, rfl, rfl, rfl, rfl, rfl, trivial⟩, rfl⟩ (by show recs.length - (k + 1) < recs.length - k; omega)
            | false =>
              have t5' := of_decide_eq_false t5
              rw [hw2] at t5'
              rw [if_neg (by omega)] at hrk
              have hla : (ac.map strV).length = ac.length := by simp
              cases t6 : decide (most ≤ ((ac.map strV).length : Int)) with
              | true =>
                rw [if_pos (by have := of_decide_eq_true t6; omega)] at hrk
                rw [← hrk, if_pos rfl] at hrj
                subst hrj
                repeat' (first | (refine go_Y ?_; intros) | (refine gs_Y ?_ ?_ <;> (intro hgd; try (simp only [Bool.not_true, Bool.not_false] at hgd))) | (refine gc_Y ?_ ?_ <;> intro _) | fail)
                (refine rt_Y (y := (⟨u, hu⟩, P1)) (hrs := Tryz.results11) (hv := ?_) (hφ := ?_))
                · rfl
                · exact hA.trans hA1
              | false =>
                rw [if_neg (by have := of_decide_eq_false t6; omega)] at hrk
                have hG := tget_spec tb b name seg (.slice (some ⟨bu, ou, none⟩) (l.map sgV).length cu) fault d ⟨⟨file, first, recs⟩, ⟨.slice pp (plV recs 0).length cp, hpv⟩, ⟨.slice ps (smV recs).length cs, hsv⟩⟩ k recs[k] P1 (hsg.ext hA1) hrg z1 z2
                generalize getT d file (lenT (recs.take k)) recs[k] = gt at hG hrk
                obtain ⟨q, e⟩ := gt
                dsimp only at hG hrk
                cases t7 : decide (e = 0) with
                | false =>
                  have t8 : (!decide (e = 0)) = true := by rw [t7]; rfl
                  rw [if_pos (of_decide_eq_false t7)] at hrk
                  rw [← hrk, if_pos rfl] at hrj
                  subst hrj
                  repeat' (first | (refine go_Y ?_; intros) | (refine gs_Y ?_ ?_ <;> (intro hgd; try (simp only [Bool.not_true, Bool.not_false] at hgd))) | (refine gc_Y ?_ ?_ <;> intro _) | fail)
                  refine cl_Y (hG) ?_
                  intro P2 g2
                  repeat' (first | (refine go_Y ?_; intros) | (refine gs_Y ?_ ?_ <;> (intro hgd; try (simp only [Bool.not_true, Bool.not_false] at hgd))) | (refine gc_Y ?_ ?_ <;> intro _) | fail)
                  refine cont_map (fun _ h => nilRow (e := 9) (n := 1) h) ?_
                  (refine rt_Y (y := (⟨.slice none 0 0, rfl⟩, P2)) (hrs := Tryz.results11) (hv := ?_) (hφ := ?_))
                  · rfl
                  · exact (hA.trans hA1).trans g2
                | true =>
                  have t8 : (!decide (e = 0)) = false := by rw [t7]; rfl
                  rw [if_neg (fun h => h (of_decide_eq_true t7))] at hrk
                  repeat' (first | (refine go_Y ?_; intros) | (refine gs_Y ?_ ?_ <;> (intro hgd; try (simp only [Bool.not_true, Bool.not_false] at hgd))) | (refine gc_Y ?_ ?_ <;> intro _) | fail)
                  refine cl_Y (hG) ?_
                  intro P2 g2
                  repeat' (first | (refine go_Y ?_; intros) | (refine gs_Y ?_ ?_ <;> (intro hgd; try (simp only [Bool.not_true, Bool.not_false] at hgd))) | (refine gc_Y ?_ ?_ <;> intro _) | fail)
                  rename_i w hw0
                  have e1 : (ac ++ [q]).map strV = ac.map strV ++ [[.string q]] := by rw [List.map_append]; rfl
                  refine cont_map (L' := [pts b9 (.cells [.string file, .int .u64 (first : Int), .slice pp (plV recs 0).length cp, .int .i64 (lenT recs : Int), .slice ps (smV recs).length cs].toArray 76), row 9 1 w ((ac ++ [q]).map strV), tpP tb b name seg (.slice (some ⟨bu, ou, none⟩) (l.map sgV).length cu) fault, diskP b d, P2] ++ R) (by rw [e1]; exact entD) ?_
                  exact cont_back (k + 1, ac ++ [q], ⟨w, hw0⟩, P2) ⟨hkl, hA1.trans g2, by dsimp only; rw [List.length_append, List.length_singleton]; omega, hrk, ⟨rfl, rfl, rfl, rfl, rfl, rfl, rfl, rfl, rfl, rfl, trivial⟩, rfl⟩ (by show recs.length - (k + 1) < recs.length - k; omega)
end Go.Proofs.YtadgdikijdmceaaGreat
set_option linter.unusedSimpArgs false
set_option linter.unusedVariables false
set_option maxRecDepth 100000
namespace Go.Proofs.YtadgdikijdmceaaGreat
open Go Go.Fx Go.Proofs Go.Pl

theorem doC_loose (d : Dk) (c : Cl) : (d.doC c).1.loose.length ≤ d.loose.length + 1 := by
  unfold Dk.doC
  split
  · exact Nat.le_succ _
  · simp
theorem remove_loose (d : Dk) (x : BA) : (d.remove x).1.loose.length ≤ d.loose.length + 1 := by
  unfold Dk.remove
  split
  · exact Nat.le_succ _
  · split
    · exact Nat.le_succ _
    · exact doC_loose _ _
def downT (f e : Int) : Int := if e = 0 ∨ e = 4 then f else e
def dropL (off : Nat) (f : Int) : List Sg → Dk → Bool → List Sg × Int × Dk × Int × Bool
  | x :: y :: l, d, s =>
    if y.first ≤ off then
      if (d.remove x.file).2 ≠ 0 then (x :: y :: l, downT f (d.remove x.file).2, (d.remove x.file).1, (d.remove x.file).2, s) else dropL off f (y :: l) (d.remove x.file).1 true
    else (x :: y :: l, f, d, 0, s)
  | [x], d, s => ([x], f, d, 0, s)
  | [], d, s => ([], f, d, 0, s)
def dropE : List Sg × Int × Dk × Int × Bool → List Sg × Int × Dk × Int
  | (l, f, d, e, s) => if e ≠ 0 then (l, f, d, e) else if s = true then (l, downT f d.sync.2, d.sync.1, d.sync.2) else (l, f, d, 0)
def dropT (off : Nat) (l : List Sg) (f : Int) (d : Dk) : List Sg × Int × Dk × Int :=
  if f ≠ 0 then (l, f, d, f) else if nextS l < off then (l, f, d, 3) else dropE (dropL off f l d false)
set_option maxHeartbeats 8000000 in
theorem tDrop_spec (tb b : Nat) (name : BA) (seg : Int) (vs : Value) (fault : Int) (d : Dk) (l : List Sm) (off : Nat) (A : HProp) (h : SgsR A vs l) (hl : l.length ≤ 1000000) (hb : nextS (l.map Sm.s) ≤ 1000000000000000) (hB : ∀ x ∈ l, SgB x.s) (hd : d.Ok) (hlo : d.loose.length ≤ 1000000) :
    FSpec Tryz.prog 15 [.pointer (some ⟨tb, 0, none⟩), .int .u64 (off : Int)] [tpP tb b name seg vs fault, diskP b d, A] (Value × List Sm) (fun y => SgsR A y.1 y.2 ∧ y.2.map Sm.s = (dropT off (l.map Sm.s) fault d).1)
      (fun y => .int .i64 (dropT off (l.map Sm.s) fault d).2.2.2) (fun y => [tpP tb b name seg y.1 (dropT off (l.map Sm.s) fault d).2.1, diskP b (dropT off (l.map Sm.s) fault d).2.2.1, A]) := by
  have hN := tNext_spec tb b name seg vs fault l A h (by omega) hb
  have hF := tFault_spec tb b name seg vs fault
  unfold dropT
  cases t1 : decide (fault = 0) with
  | false =>
    have t2 : (!decide (fault = 0)) = true := by rw [t1]; rfl
    rw [if_pos (of_decide_eq_false t1)]
    refine spec_intro [] _ Tryz.func15 rfl Tryz.ntmps15 (by rfl) (fun w0 R => ?_)
    repeat' (first | (refine go_Y ?_; intros) | (refine gs_Y ?_ ?_ <;> (intro hgd; try (simp only [Bool.not_true, Bool.not_false] at hgd))) | (refine gc_Y ?_ ?_ <;> intro _) | fail)
    refine cl_Y (hF) ?_
    intro _ _
    repeat' (first | (refine go_Y ?_; intros) | (refine gs_Y ?_ ?_ <;> (intro hgd; try (simp only [Bool.not_true, Bool.not_false] at hgd))) | (refine gc_Y ?_ ?_ <;> intro _) | fail)
    (refine rt_Y (y := (vs, l)) (hrs := Tryz.results15) (hv := ?_) (hφ := ?_))
    · rfl
    · exact ⟨h, rfl⟩
  | true =>
    have t2 : (!decide (fault = 0)) = false := by rw [t1]; rfl
    rw [if_neg (fun k => k (of_decide_eq_true t1))]
    generalize hne : nextS (l.map Sm.s) = ne at hN hb ⊢
    cases t3 : decide ((ne : Int) < (off : Int)) with
    | true =>
      rw [if_pos (by have := of_decide_eq_true t3; omega)]
      refine spec_intro [] _ Tryz.func15 rfl Tryz.ntmps15 (by rfl) (fun w0 R => ?_)
      repeat' (first | (refine go_Y ?_; intros) | (refine gs_Y ?_ ?_ <;> (intro hgd; try (simp only [Bool.not_true, Bool.not_false] at hgd))) | (refine gc_Y ?_ ?_ <;> intro _) | fail)
      refine cl_Y (hF) ?_
      intro _ _
      repeat' (first | (refine go_Y ?_; intros) | (refine gs_Y ?_ ?_ <;> (intro hgd; try (simp only [Bool.not_true, Bool.not_false] at hgd))) | (refine gc_Y ?_ ?_ <;> intro _) | fail)
      refine cl_Y (hN) ?_
      intro _ _
      repeat' (first | (refine go_Y ?_; intros) | (refine gs_Y ?_ ?_ <;> (intro hgd; try (simp only [Bool.not_true, Bool.not_false] at hgd))) | (refine gc_Y ?_ ?_ <;> intro _) | fail)
      (refine rt_Y (y := (vs, l)) (hrs := Tryz.results15) (hv := ?_) (hφ := ?_))
      · rfl
      · exact ⟨h, rfl⟩
    | false =>
      rw [if_neg (by have := of_decide_eq_false t3; omega)]
      generalize hres : dropL off fault (l.map Sm.s) d false = res
      refine spec_intro [] _ Tryz.func15 rfl Tryz.ntmps15 (by rfl) (fun w0 R => ?_)
      repeat' (first | (refine go_Y ?_; intros) | (refine gs_Y ?_ ?_ <;> (intro hgd; try (simp only [Bool.not_true, Bool.not_false] at hgd))) | (refine gc_Y ?_ ?_ <;> intro _) | fail)
      refine cl_Y (hF) ?_
      intro _ _
      repeat' (first | (refine go_Y ?_; intros) | (refine gs_Y ?_ ?_ <;> (intro hgd; try (simp only [Bool.not_true, Bool.not_false] at hgd))) | (refine gc_Y ?_ ?_ <;> intro _) | fail)
      refine cl_Y (hN) ?_
      intro _ _
      repeat' (first | (refine go_Y ?_; intros) | (refine gs_Y ?_ ?_ <;> (intro hgd; try (simp only [Bool.not_true, Bool.not_false] at hgd))) | (refine gc_Y ?_ ?_ <;> intro _) | fail)
      refine ok_map (L' := [tpP tb b name seg vs fault, diskP b d, A] ++ R) entD ?_
      refine ok_loop' (γ := List Sm × Value × Dk × Bool) (fun g ρ L => SgsR A g.2.1 g.1 ∧ (∀ x ∈ g.1, SgB x.s) ∧ g.2.2.1.Ok ∧ g.2.2.1.loose.length + g.1.length ≤ 2000000 ∧ dropL off fault (g.1.map Sm.s) g.2.2.1 g.2.2.2 = res ∧
          Knows ρ [(0, .pointer (some ⟨tb, 0, none⟩)), (1, .int .u64 (off : Int)), (6, .bool g.2.2.2)] ∧
          L = [tpP tb b name seg g.2.1 fault, diskP b g.2.2.1, A] ++ R) (fun g => g.1.length) (l, vs, d, false) ⟨h, hB, hd, by dsimp only; omega, hres, ⟨rfl, rfl, rfl, trivial⟩, rfl⟩ ?_
      rintro ⟨m, vm, D, sb⟩ ρ L ⟨hm, hBm, hD, hlm, hrm, hk, rfl⟩
      dsimp only at hm hBm hD hlm hrm hk ⊢
      refine ok_regs hk ?_
      obtain ⟨pm, cm, rfl, hcm⟩ := hm.cp
      have hmv := hm.vw
      have lm : (m.map sgV).length = m.length := by simp
      cases t4 : decide ((1 : Int) < ((m.map sgV).length : Int)) with
      | false =>
        have hdone : res = (m.map Sm.s, fault, D, 0, sb) := by
          match m, t4, hrm with
          | [], _, e => exact e.symm
          | [x], _, e => exact e.symm
          | x :: y :: l, t, _ => exact absurd (of_decide_eq_false t) (by simp; omega)
        subst hdone
        cases sb with
        | false =>
          repeat' (first | (refine go_Y ?_; intros) | (refine gs_Y ?_ ?_ <;> (intro hgd; try (simp only [Bool.not_true, Bool.not_false] at hgd))) | (refine gc_Y ?_ ?_ <;> intro _) | fail)
          (refine rt_Y (y := (.slice pm (m.map sgV).length cm, m)) (hrs := Tryz.results15) (hv := ?_) (hφ := ?_))
          · rfl
          · exact ⟨hm, rfl⟩
        | true =>
          have hy := sync_spec b D hD
          unfold dropE
          dsimp only
          rw [if_neg (by decide), if_pos rfl]
          unfold downT
          generalize D.sync = sy at hy ⊢
          obtain ⟨D2, e2⟩ := sy
          dsimp only at hy ⊢
          repeat' (first | (refine go_Y ?_; intros) | (refine gs_Y ?_ ?_ <;> (intro hgd; try (simp only [Bool.not_true, Bool.not_false] at hgd))) | (refine gc_Y ?_ ?_ <;> intro _) | fail)
          refine cl_Y (hy) ?_
          intro _ _
          repeat' (first | (refine go_Y ?_; intros) | (refine gs_Y ?_ ?_ <;> (intro hgd; try (simp only [Bool.not_true, Bool.not_false] at hgd))) | (refine gc_Y ?_ ?_ <;> intro _) | fail)
          refine cl_Y (down_spec tb b name seg (.slice pm (m.map sgV).length cm) fault e2) ?_
          intro _ _
          repeat' (first | (refine go_Y ?_; intros) | (refine gs_Y ?_ ?_ <;> (intro hgd; try (simp only [Bool.not_true, Bool.not_false] at hgd))) | (refine gc_Y ?_ ?_ <;> intro _) | fail)
          (refine rt_Y (y := (.slice pm (m.map sgV).length cm, m)) (hrs := Tryz.results15) (hv := ?_) (hφ := ?_))
          · rfl
          · exact ⟨hm, rfl⟩
      | true =>
        have hmm : ∃ x y m', m = x :: y :: m' := by
          match m, t4 with
          | [], t => exact absurd (of_decide_eq_true t) (by simp)
          | [x], t => exact absurd (of_decide_eq_true t) (by simp)
          | x :: y :: l, _ => exact ⟨x, y, l, rfl⟩
        obtain ⟨x, y, m', hme⟩ := hmm
        have hin0 : 0 < (m.map sgV).length := by have := of_decide_eq_true t4; omega
        have hin1 : 1 < (m.map sgV).length := by have := of_decide_eq_true t4; omega
        have hx0 : (m.map sgV)[0]? = some (sgV x) := by rw [hme]; rfl
        have hx1 : (m.map sgV)[1]? = some (sgV y) := by rw [hme]; rfl
        refine ok_learn (VwIn.base (n := 5) (p := pm) (len := (m.map sgV).length) (cap := cm) (xs := m.map sgV) (VwIn.there (VwIn.there (VwIn.here hmv))) (by intro e; rw [e] at hin0; simp at hin0)) ?_
        rintro ⟨bm, om, rfl⟩
        have hBx := hBm x (by rw [hme]; exact List.mem_cons_self)
        have hdv := hmv.drop (k := 1) hcm
        have hrm' := hrm
        rw [hme] at hrm'
        rw [List.map_cons, List.map_cons] at hrm'
        unfold dropL at hrm'
        have hSd : SgsR A (dropV 5 (some ⟨bm, om, none⟩) (m.map sgV).length cm 1) (y :: m') := by
          refine ⟨?_, fun z hz => hm.sg z (by rw [hme]; exact List.mem_cons_of_mem _ hz), ?_⟩
          · rw [hme] at hdv ⊢
            exact hdv
          · rw [hme] at hcm ⊢
            refine ⟨_, _, rfl, ?_⟩
            have : (List.map sgV (x :: y :: m')).length = (List.map sgV (y :: m')).length + 1 := rfl
            omega
        have hBd : ∀ z ∈ (y :: m'), SgB z.s := fun z hz => hBm z (by rw [hme]; exact List.mem_cons_of_mem _ hz)
        have hml : m.length = m'.length + 1 + 1 := by rw [hme]; rfl
        have hx0' := hx0
        obtain ⟨⟨f1, n1, r1⟩, ⟨pv1, hp1⟩, ⟨sv1, hs1⟩⟩ := x
        obtain ⟨⟨f2, n2, r2⟩, ⟨pv2, hp2⟩, ⟨sv2, hs2⟩⟩ := y
        dsimp only [sgV] at hx0 hx1
        dsimp only at hrm' hBx
        cases t5 : decide ((n2 : Int) ≤ (off : Int)) with
        | false =>
          have hdone : res = (m.map Sm.s, fault, D, 0, sb) := by
            rw [if_neg (by have := of_decide_eq_false t5; omega)] at hrm'
            rw [← hrm', hme]
            rfl
          subst hdone
          cases sb with
          | false =>
            repeat' (first | (refine go_Y ?_; intros) | (refine gs_Y ?_ ?_ <;> (intro hgd; try (simp only [Bool.not_true, Bool.not_false] at hgd))) | (refine gc_Y ?_ ?_ <;> intro _) | fail)
            (refine rt_Y (y := (.slice (some ⟨bm, om, none⟩) (m.map sgV).length cm, m)) (hrs := Tryz.results15) (hv := ?_) (hφ := ?_))
            · rfl
            · exact ⟨hm, rfl⟩
          | true =>
            have hy := sync_spec b D hD
            unfold dropE
            dsimp only
            rw [if_neg (by decide), if_pos rfl]
            unfold downT
            generalize D.sync = sy at hy ⊢
            obtain ⟨D2, e2⟩ := sy
            dsimp only at hy ⊢
            repeat' (first | (refine go_Y ?_; intros) | (refine gs_Y ?_ ?_ <;> (intro hgd; try (simp only [Bool.not_true, Bool.not_false] at hgd))) | (refine gc_Y ?_ ?_ <;> intro _) | fail)
            refine cl_Y (hy) ?_
            intro _ _
            repeat' (first | (refine go_Y ?_; intros) | (refine gs_Y ?_ ?_ <;> (intro hgd; try (simp only [Bool.not_true, Bool.not_false] at hgd))) | (refine gc_Y ?_ ?_ <;> intro _) | fail)
            refine cl_Y (down_spec tb b name seg (.slice (some ⟨bm, om, none⟩) (m.map sgV).length cm) fault e2) ?_
            intro _ _
            repeat' (first | (refine go_Y ?_; intros) | (refine gs_Y ?_ ?_ <;> (intro hgd; try (simp only [Bool.not_true, Bool.not_false] at hgd))) | (refine gc_Y ?_ ?_ <;> intro _) | fail)
            (refine rt_Y (y := (.slice (some ⟨bm, om, none⟩) (m.map sgV).length cm, m)) (hrs := Tryz.results15) (hv := ?_) (hφ := ?_))
            · rfl
            · exact ⟨hm, rfl⟩
        | true =>
          rw [if_pos (by have := of_decide_eq_true t5; omega)] at hrm'
          have hR := remove_spec b D f1 hD (by omega) hBx.f
          have hRl := remove_loose D f1
          have hRo : (D.remove f1).1.Ok := hD.remove
          generalize D.remove f1 = rm at hR hRl hRo hrm'
          obtain ⟨D1, e1⟩ := rm
          dsimp only at hR hRl hRo hrm'
          cases t6 : decide (e1 = 0) with
          | false =>
            have t7 : (!decide (e1 = 0)) = true := by rw [t6]; rfl
            rw [if_pos (of_decide_eq_false t6)] at hrm'
            subst hrm'
            unfold dropE
            dsimp only
            rw [if_pos (of_decide_eq_false t6)]
            unfold downT
            repeat' (first | (refine go_Y ?_; intros) | (refine gs_Y ?_ ?_ <;> (intro hgd; try (simp only [Bool.not_true, Bool.not_false] at hgd))) | (refine gc_Y ?_ ?_ <;> intro _) | fail)
            refine cl_Y (hR) ?_
            intro _ _
            repeat' (first | (refine go_Y ?_; intros) | (refine gs_Y ?_ ?_ <;> (intro hgd; try (simp only [Bool.not_true, Bool.not_false] at hgd))) | (refine gc_Y ?_ ?_ <;> intro _) | fail)
            refine cl_Y (down_spec tb b name seg (.slice (some ⟨bm, om, none⟩) (m.map sgV).length cm) fault e1) ?_
            intro _ _
            repeat' (first | (refine go_Y ?_; intros) | (refine gs_Y ?_ ?_ <;> (intro hgd; try (simp only [Bool.not_true, Bool.not_false] at hgd))) | (refine gc_Y ?_ ?_ <;> intro _) | fail)
            (refine rt_Y (y := (.slice (some ⟨bm, om, none⟩) (m.map sgV).length cm, m)) (hrs := Tryz.results15) (hv := ?_) (hφ := ?_))
            · rfl
            · exact ⟨hm, by rw [hme]; rfl⟩
          | true =>
            have t7 : (!decide (e1 = 0)) = false := by rw [t6]; rfl
            obtain rfl := of_decide_eq_true t6
            rw [if_neg (fun k => k rfl)] at hrm'
            have hdn := down_spec tb b name seg (.slice (some ⟨bm, om, none⟩) (m.map sgV).length cm) fault 0
            rw [if_pos (.inl rfl)] at hdn
            repeat' (first | (refine go_Y ?_; intros) | (refine gs_Y ?_ ?_ <;> (intro hgd; try (simp only [Bool.not_true, Bool.not_false] at hgd))) | (refine gc_Y ?_ ?_ <;> intro _) | fail)
            refine cl_Y (hR) ?_
            intro _ _
            repeat' (first | (refine go_Y ?_; intros) | (refine gs_Y ?_ ?_ <;> (intro hgd; try (simp only [Bool.not_true, Bool.not_false] at hgd))) | (refine gc_Y ?_ ?_ <;> intro _) | fail)
            refine cl_Y (hdn) ?_
            intro _ _
            repeat' (first | (refine go_Y ?_; intros) | (refine gs_Y ?_ ?_ <;> (intro hgd; try (simp only [Bool.not_true, Bool.not_false] at hgd))) | (refine gc_Y ?_ ?_ <;> intro _) | fail)
            refine ops_run (a_slice_viewlo (m := 1) rfl rfl rfl (by omega) rfl ?_)
            repeat' (first | (refine go_Y ?_; intros) | (refine gs_Y ?_ ?_ <;> (intro hgd; try (simp only [Bool.not_true, Bool.not_false] at hgd))) | (refine gc_Y ?_ ?_ <;> intro _) | fail)
            refine cont_map (L' := [tpP tb b name seg (dropV 5 (some ⟨bm, om, none⟩) (m.map sgV).length cm 1) fault, diskP b D1, A] ++ R) entD ?_
            exact cont_back (⟨⟨f2, n2, r2⟩, ⟨pv2, hp2⟩, ⟨sv2, hs2⟩⟩ :: m', dropV 5 (some ⟨bm, om, none⟩) (m.map sgV).length cm 1, D1, true) ⟨hSd, hBd, hRo, by dsimp only; rw [List.length_cons]; omega, hrm', ⟨rfl, rfl, rfl, trivial⟩, rfl⟩ (by show m'.length + 1 < m.length; omega)
end Go.Proofs.YtadgdikijdmceaaGreat
