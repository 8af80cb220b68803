/- Texts merged: SuQ SuB SuC SuD. -/
import Derived.Test.YtmnafjonbeihiaaGreatDoorG21
import Derived.Test.YtmnafjonbeihiaaGreatDoorG22
import Derived.Test.YtmnafjonbeihiaaGreatDoorG1
import Derived.Test.YtmnafjonbeihiaaGreatDoorG4
import Derived.Test.YtmnafjonbeihiaaGreatDoorG11
set_option linter.unusedSimpArgs false
set_option linter.unusedVariables false
namespace Go.Proofs.YtmnafjonbeihiaaGreatDoor
open Go Go.Fx Go.Pl
theorem rest_rest (s : BA) (i j : Nat) (h : i ≤ s.size) : (s.extract i s.size).extract j (s.extract i s.size).size = s.extract (i + j) s.size := by
  apply tl_inj
  rw [tl_ext, tl_ext, tl_ext, ByteArray.size_extract, Nat.min_self, List.drop_take, List.drop_drop, List.take_take]
  congr 1
  omega
theorem rest_size (s : BA) (i : Nat) (h : i ≤ s.size) : (s.extract i s.size).size = s.size - i := by rw [ByteArray.size_extract, Nat.min_self]
theorem recE_size {n k : Nat} {l : List Chg} {c : Chg} (h : ChOk c) (hk : k < 200) : (recE n l k c).size ≤ 1648 := by
  have hm := h.may (k : Int) (nthC l k c.table : Int) (by omega) (by have := nthC_le l k c.table; omega) (by omega)
  obtain ⟨_, _, _, _, _, _, _, _, hrow⟩ := mayE_all hm
  obtain ⟨_, hl2⟩ := hasE_len c
  have hsz := foldR_size hrow (⟨#[]⟩ : BA)
  have hs1 : (rowsB (hasE c)).size ≤ 1634 := by
    have : (rowsB (hasE c)).size ≤ (⟨#[]⟩ : BA).size + 817 * (hasE c).length := hsz
    have e : (⟨#[]⟩ : BA).size = 0 := rfl
    omega
  unfold recE
  rw [putEB_apart]
  simp only [ByteArray.size_append, numB_size, oneB_size]
  omega
theorem recT_size_succ (n : Nat) {l : List Chg} {k : Nat} {c : Chg} (h : l[k]? = some c) : (recT n l (k + 1)).size = (recT n l k).size + (4 + (recE n l k c).size) := by
  rw [recT_succ n h, ByteArray.size_append, ByteArray.size_append, numB_size]
theorem recT_le {n : Nat} {l : List Chg} (hc : ∀ c ∈ l, ChOk c) (hl : l.length ≤ 199) : ∀ k, k ≤ l.length → (recT n l k).size ≤ 2 + 1652 * k
  | 0, _ => by show (numB l.length 2).size ≤ _; rw [numB_size]; omega
  | k + 1, hk => by
    have h : l[k]? = some l[k] := List.getElem?_eq_getElem (by omega)
    have h1 := recT_le (n := n) hc hl k (by omega)
    have h2 := recE_size (n := n) (k := k) (l := l) (hc _ (List.getElem_mem (by omega : k < l.length))) (by omega)
    rw [recT_size_succ n h]
    omega
theorem rec_0 (n : Nat) (l : List Chg) : At (recB n l) 0 (numB l.length 2) := by
  obtain ⟨r, h⟩ := recT_pre n l 0 l.length
  rw [Nat.zero_add] at h
  refine ⟨[], tl r, ?_, rfl⟩
  show tl (recT n l l.length) = _
  rw [h, tl_app]
  rfl
theorem rec_at' (n : Nat) {l : List Chg} {k : Nat} {c : Chg} (h : l[k]? = some c) : At (recB n l) (recT n l k).size (numB (recE n l k c).size 4 ++ recE n l k c) := by
  have hk : k < l.length := by
    rcases Nat.lt_or_ge k l.length with h1 | h1
    · exact h1
    · rw [List.getElem?_eq_none h1] at h; cases h
  obtain ⟨r, hr⟩ := recT_pre n l (k + 1) (l.length - (k + 1))
  rw [show k + 1 + (l.length - (k + 1)) = l.length by omega, recT_succ n h] at hr
  refine ⟨tl (recT n l k), tl r, ?_, tl_len _⟩
  show tl (recT n l l.length) = _
  rw [hr, tl_app, tl_app, List.append_assoc]
end Go.Proofs.YtmnafjonbeihiaaGreatDoor
set_option maxRecDepth 100000
namespace Go.Proofs.YtmnafjonbeihiaaGreatDoor
open Go Go.Fx Go.Proofs Go.Pl
instance keyI64 : KeyT Tryz.prog 3 (KInt .i64) := keyT_int Tryz.underlying3
theorem fitsW4 {v : Nat} (h : v < 4294967296) : fitsB v 4 8 = true := by
  unfold fitsB
  rw [Bool.or_eq_true]
  refine .inr ?_
  rw [decide_eq_true_eq]
  show (v : Int).fdiv (2 ^ (min (4 * 8 : Int).toNat IntKind.u64.bits)) = 0
  rw [show min (4 * 8 : Int).toNat IntKind.u64.bits = 32 from rfl, show (2 : Int) ^ 32 = 4294967296 from rfl, Int.fdiv_eq_ediv_of_nonneg _ (by decide)]
  omega
theorem num2_spec (v : Nat) (h : v < 65536) : FSpec Tryz.prog 100 [.int .i64 (v : Int), .int .i64 2] [] Unit (fun _ => True) (fun _ => .string (numB v 2)) (fun _ => []) := by
  have hp := wput_spec v 2 (by omega) (by omega) (by omega) (fits2 h)
  have hw : IntKind.u64.wrap (v : Int) = (v : Int) := by rw [wrap_u64]; omega
  refine spec_intro [] _ Tryz.func100 rfl Tryz.ntmps100 (by rfl) (fun w0 R => ?_)
  repeat' (first | (refine gY ?_; intros) | (refine hY ?_ ?_ <;> (intro hgd; try simp only [bn] at hgd)) | (refine jY ?_ ?_ <;> intro _) | fail)
  refine cl_Y (hp) ?_
  intro _ _
  repeat' (first | (refine gY ?_; intros) | (refine hY ?_ ?_ <;> (intro hgd; try simp only [bn] at hgd)) | (refine jY ?_ ?_ <;> intro _) | fail)
  (refine rt_Y (y := ()) (hrs := Tryz.results100) (hv := ?_) (hφ := ?_))
  · rfl
  · trivial
theorem num4_spec (v : Nat) (h : v < 4294967296) : FSpec Tryz.prog 100 [.int .i64 (v : Int), .int .i64 4] [] Unit (fun _ => True) (fun _ => .string (numB v 4)) (fun _ => []) := by
  have hp := wput_spec v 4 (by omega) (by omega) (by omega) (fitsW4 h)
  have hw : IntKind.u64.wrap (v : Int) = (v : Int) := by rw [wrap_u64]; omega
  refine spec_intro [] _ Tryz.func100 rfl Tryz.ntmps100 (by rfl) (fun w0 R => ?_)
  repeat' (first | (refine gY ?_; intros) | (refine hY ?_ ?_ <;> (intro hgd; try simp only [bn] at hgd)) | (refine jY ?_ ?_ <;> intro _) | fail)
  refine cl_Y (hp) ?_
  intro _ _
  repeat' (first | (refine gY ?_; intros) | (refine hY ?_ ?_ <;> (intro hgd; try simp only [bn] at hgd)) | (refine jY ?_ ?_ <;> intro _) | fail)
  (refine rt_Y (y := ()) (hrs := Tryz.results100) (hv := ?_) (hφ := ?_))
  · rfl
  · trivial
theorem getK_put_self (a : Int) (v : Value) : ∀ l : List (Int × Value), getK (KInt .i64) a (putK (KInt .i64) a v l) = some v
  | [] => by show (if a = a then some v else none) = _; rw [if_pos rfl]
  | (b, u) :: l => by
    show getK (KInt .i64) a (if a = b then (a, v) :: l else (b, u) :: putK (KInt .i64) a v l) = _
    split
    · show (if a = a then some v else _) = _; rw [if_pos rfl]
    · rename_i h
      show (if a = b then some u else getK (KInt .i64) a (putK (KInt .i64) a v l)) = _
      rw [if_neg h]; exact getK_put_self a v l
theorem getK_put_ne (a j : Int) (v : Value) (hj : j ≠ a) : ∀ l : List (Int × Value), getK (KInt .i64) j (putK (KInt .i64) a v l) = getK (KInt .i64) j l
  | [] => by show (if j = a then some v else none) = none; rw [if_neg hj]
  | (b, u) :: l => by
    show getK (KInt .i64) j (if a = b then (a, v) :: l else (b, u) :: putK (KInt .i64) a v l) = (if j = b then some u else getK (KInt .i64) j l)
    split
    · rename_i h
      show (if j = a then some v else getK (KInt .i64) j l) = _
      rw [if_neg hj, if_neg (fun e => hj (e.trans h.symm))]
    · show (if j = b then some u else getK (KInt .i64) j (putK (KInt .i64) a v l)) = _
      split
      · rfl
      · exact getK_put_ne a j v hj l
def NthM (l : List Chg) (k : Nat) (es : List (Int × Value)) : Prop := ∀ t : Int, (getK (KInt .i64) t es = none ∧ nthC l k t = 0) ∨ getK (KInt .i64) t es = some (.int .i64 (nthC l k t : Int))
theorem NthM.succ {l : List Chg} {k : Nat} {es : List (Int × Value)} (h : NthM l k es) (hk : k < l.length) : NthM l (k + 1) (putK (KInt .i64) l[k].table (.int .i64 (((nthC l k l[k].table : Nat) : Int) + 1)) es) := fun t => by
  rw [nthC_succ hk]
  by_cases e : l[k].table = t
  · right
    subst e
    rw [getK_put_self, if_pos rfl]
    rfl
  · rw [getK_put_ne _ _ _ (fun h => e h.symm), if_neg e, Nat.add_zero]
    exact h t
set_option maxHeartbeats 8000000 in
theorem record_spec (n : Nat) (u : Value) (P : HProp) (cs : List Cm) (hn : n ≤ 1000000) (hU : UT P) (hu : Vw P 4 u (cs.map cmV)) (hc : ∀ c ∈ cs, ChI P c ∧ ChOk c.c) (hl : cs.length ≤ 199) :
    FSpec Tryz.prog 49 [.int .u64 (n : Int), u] [P] Unit (fun _ => True) (fun _ => .string (recB n (cs.map Cm.c))) (fun _ => [P]) := by
  have lc : (cs.map cmV).length = cs.length := by simp
  have lC : (cs.map Cm.c).length = cs.length := by simp
  have h2 := num2_spec cs.length (by omega)
  refine spec_intro [] _ Tryz.func49 rfl Tryz.ntmps49 (by rfl) (fun w0 R => ?_)
  refine ok_learn (VwIn.slice (VwIn.here hu)) ?_
  rintro ⟨pu, cu, rfl⟩
  have hT0 : recT n (cs.map Cm.c) 0 = numB cs.length 2 := by show numB (cs.map Cm.c).length 2 = _; rw [lC]
  rw [← hT0, ← lc] at h2
  have hNth0 : NthM (cs.map Cm.c) 0 [] := fun t => .inl ⟨rfl, rfl⟩
  repeat' (first | (refine gY ?_; intros) | (refine hY ?_ ?_ <;> (intro hgd; try simp only [bn] at hgd)) | (refine jY ?_ ?_ <;> intro _) | fail)
  refine cl_Y (h2) ?_
  intro _ _
  repeat' (first | (refine gY ?_; intros) | (refine hY ?_ ?_ <;> (intro hgd; try simp only [bn] at hgd)) | (refine jY ?_ ?_ <;> intro _) | fail)
  rename_i bm
  refine ok_map (L' := [mapK (KInt .i64) bm [], P] ++ R) entD ?_
  refine ok_loop' (γ := Nat × List (Int × Value)) (fun g ρ L => g.1 ≤ cs.length ∧ NthM (cs.map Cm.c) g.1 g.2 ∧ Knows ρ [(0, .int .u64 (n : Int)), (5, .string (recT n (cs.map Cm.c) g.1)), (6, .map (some bm)), (15, .slice pu (cs.map cmV).length cu), (16, .int .i64 ((cs.map cmV).length : Int)), (17, .int .i64 (g.1 : Int))] ∧
      L = [mapK (KInt .i64) bm g.2, P] ++ R) (fun g => cs.length - g.1) (0, []) ?_ ?_
  · refine ⟨Nat.zero_le _, hNth0, ?_, ?_⟩
    · exact ⟨rfl, rfl, rfl, rfl, rfl, rfl, trivial⟩
    · rfl
  rintro ⟨k, es⟩ ρ L ⟨hk0, hN, hk, rfl⟩
  dsimp only at hk0 hN hk ⊢
  refine ok_regs hk ?_
  have hTz := recT_le (n := n) (l := cs.map Cm.c) (fun c hm => by
    obtain ⟨x, hx, rfl⟩ := List.mem_map.1 hm
    exact (hc x hx).2) (by omega) k (by omega)
  cases t1 : decide ((k : Int) < ((cs.map cmV).length : Int)) with
  | false =>
    have hke : k = cs.length := by have := of_decide_eq_false t1; omega
    have hfin : recT n (cs.map Cm.c) k = recB n (cs.map Cm.c) := by unfold recB; rw [hke, lC]
    rw [hfin]
    generalize recB n (cs.map Cm.c) = S
    repeat' (first | (refine gY ?_; intros) | (refine hY ?_ ?_ <;> (intro hgd; try simp only [bn] at hgd)) | (refine jY ?_ ?_ <;> intro _) | fail)
    (refine rt_Y (y := ()) (hrs := Tryz.results49) (hv := ?_) (hφ := ?_))
    · rfl
    · trivial
  | true =>
    have h : k < cs.length := by have := of_decide_eq_true t1; omega
    have hx : (cs.map cmV)[k]? = some (cmV cs[k]) := by rw [List.getElem?_map, List.getElem?_eq_getElem h]; rfl
    have hxc : (cs.map Cm.c)[k]? = some cs[k].c := by rw [List.getElem?_map, List.getElem?_eq_getElem h]; rfl
    have hn1 : k < (cs.map cmV).length := by omega
    obtain ⟨hI, hO⟩ := hc _ (List.getElem_mem h)
    have hNt := hN cs[k].c.table
    have hNs := hN.succ (by omega : k < (cs.map Cm.c).length)
    have hnl := nthC_le (cs.map Cm.c) k cs[k].c.table
    have hez := recE_size (n := n) (k := k) (l := cs.map Cm.c) hO (by omega)
    have hput := evPut_spec ⟨(n : Int), (k : Int), (nthC (cs.map Cm.c) k cs[k].c.table : Int), cs[k]⟩ P hU hI.r hI.wb hI.wa hI.lb hI.la (hO.may _ _ (by dsimp only; omega) (by dsimp only; omega) (by dsimp only; omega)) (by dsimp only; omega) (by dsimp only; omega)
    have hE : putEB (n : Int) (k : Int) (nthC (cs.map Cm.c) k cs[k].c.table : Int) cs[k].c = recE n (cs.map Cm.c) k cs[k].c := rfl
    dsimp only at hput
    rw [hE] at hput
    have hst := recT_succ n hxc
    have hnz := numB_size (recE n (cs.map Cm.c) k cs[k].c).size 4
    have hsm : (numB (recE n (cs.map Cm.c) k cs[k].c).size 4 ++ recE n (cs.map Cm.c) k cs[k].c).size = 4 + (recE n (cs.map Cm.c) k cs[k].c).size := by rw [ByteArray.size_append, numB_size]
    have hn4 := num4_spec (recE n (cs.map Cm.c) k cs[k].c).size (by omega)
    rw [List.getElem_map] at hNs
    generalize recE n (cs.map Cm.c) k cs[k].c = E at hput hez hst hn4 hnz hsm
    generalize recT n (cs.map Cm.c) k = T at hTz hst
    generalize hnn : nthC (cs.map Cm.c) k cs[k].c.table = nn at hNt hNs hnl hput
    clear hE hnn hO
    have hcb := hI.r.bv
    have hca := hI.r.av
    generalize cs[k] = c at hx hNt hNs hput hcb hca
    obtain ⟨ck, ct, ⟨bv, hbv⟩, bef, ⟨av, hav⟩, aft⟩ := c
    dsimp only [cmV, emV, Cm.c] at hx hNt hNs hput hcb hca
    refine ok_learn (VwIn.slice (VwIn.there (VwIn.here hcb))) ?_
    rintro ⟨pb, cb, rfl⟩
    refine ok_learn (VwIn.slice (VwIn.there (VwIn.here hca))) ?_
    rintro ⟨pa, ca, rfl⟩
    refine ok_learn (VwIn.base (n := 4) (p := pu) (len := (cs.map cmV).length) (cap := cu) (xs := cs.map cmV) (VwIn.there (VwIn.here hu)) (by intro e; rw [e] at hn1; simp at hn1)) ?_
    rintro ⟨bu, ou, rfl⟩
    rcases hNt with ⟨hg, h0⟩ | hg
    · subst h0
      repeat' (first | (refine gY ?_; intros) | (refine hY ?_ ?_ <;> (intro hgd; try simp only [bn] at hgd)) | (refine jY ?_ ?_ <;> intro _) | fail)
      refine cl_Y (hput) ?_
      intro _ _
      repeat' (first | (refine gY ?_; intros) | (refine hY ?_ ?_ <;> (intro hgd; try simp only [bn] at hgd)) | (refine jY ?_ ?_ <;> intro _) | fail)
      refine cl_Y (hn4) ?_
      intro _ _
      repeat' (first | (refine gY ?_; intros) | (refine hY ?_ ?_ <;> (intro hgd; try simp only [bn] at hgd)) | (refine jY ?_ ?_ <;> intro _) | fail)
      rw [← hst]
      refine cont_map (L' := [mapK (KInt .i64) bm (putK (KInt .i64) ct (.int .i64 (((0 : Nat) : Int) + 1)) es), P] ++ R) entD ?_
      exact cont_back (k + 1, putK (KInt .i64) ct (.int .i64 (((0 : Nat) : Int) + 1)) es) ⟨h, hNs, ⟨rfl, rfl, rfl, rfl, rfl, rfl, trivial⟩, rfl⟩ (by dsimp only; omega)
    · repeat' (first | (refine gY ?_; intros) | (refine hY ?_ ?_ <;> (intro hgd; try simp only [bn] at hgd)) | (refine jY ?_ ?_ <;> intro _) | fail)
      refine cl_Y (hput) ?_
      intro _ _
      repeat' (first | (refine gY ?_; intros) | (refine hY ?_ ?_ <;> (intro hgd; try simp only [bn] at hgd)) | (refine jY ?_ ?_ <;> intro _) | fail)
      refine cl_Y (hn4) ?_
      intro _ _
      repeat' (first | (refine gY ?_; intros) | (refine hY ?_ ?_ <;> (intro hgd; try simp only [bn] at hgd)) | (refine jY ?_ ?_ <;> intro _) | fail)
      rw [← hst]
      refine cont_map (L' := [mapK (KInt .i64) bm (putK (KInt .i64) ct (.int .i64 ((nn : Int) + 1)) es), P] ++ R) entD ?_
      exact cont_back (k + 1, putK (KInt .i64) ct (.int .i64 ((nn : Int) + 1)) es) ⟨h, hNs, ⟨rfl, rfl, rfl, rfl, rfl, rfl, trivial⟩, rfl⟩ (by dsimp only; omega)
def ycV (c : Cm) : List Value := [.agg (cmV c).toArray, .bool true]
def YcR (P : HProp) (x : Chg) (c : Cm) : Prop := CmR P c ∧ c.c = x
theorem YcR.ext {P P' : HProp} (e : Ext P P') {x : Chg} {c : Cm} (h : YcR P x c) : YcR P' x c := ⟨h.1.ext e, h.2⟩
theorem wgetN (t : BA) (v m : Nat) (ht : t = numB v m) (h1 : 1 ≤ m) (h8 : m ≤ 8) (hv : v < 256 ^ m) : FSpec Tryz.prog 159 [.string t] [] Unit (fun _ => True) (fun _ => .tuple #[.int .u64 (v : Int), .int .i64 0]) (fun _ => []) := by
  have hz : t.size = m := by rw [ht, numB_size]
  have hg := wget_spec t (by omega) (by omega)
  rw [getL_valB t (by omega), show valB t = (v : Int) by rw [ht]; exact valB_numB hv] at hg
  exact hg
set_option maxHeartbeats 16000000 in
theorem changes1_spec (bt n : Nat) (l : List Chg) (A0 : HProp) (hU : UT A0) (hn : n ≤ 1000000) (hl : l.length ≤ 199) (hc : ∀ c ∈ l, ChOk c) :
    ∀ (yv : Value) (St : HProp → List Cm → HProp) (P0 : HProp), Ext A0 P0 → (∀ (pre : List Cm) (x : Chg) (b : Cm) (Pq Pa : HProp), l[pre.length]? = some x → AllR YcR Pq l pre → Ext P0 Pq → Ext Pq Pa → YcR Pa x b →
      VSpec Tryz.prog yv (ycV b) [Pa, St Pq pre] HProp (fun Pb => Ext Pa Pb) (fun _ => .bool true) (fun Pb => [Pb, St Pb (pre ++ [b])])) →
    FSpec Tryz.prog 158 (yv :: [.pointer (some ⟨bt, 0, none⟩)]) ([pts bt (.cells [.string (recB n l)].toArray 9)] ++ [P0, St P0 []]) (List Cm × HProp × HProp) (fun y => y.1.length = l.length ∧ AllR YcR y.2.1 l y.1 ∧ Ext P0 y.2.1 ∧ Ext y.2.1 y.2.2) (fun _ => .tuple #[]) (fun y => y.2.2 :: St y.2.1 y.1 :: []) := by
  intro yv St P0 hA0 hy
  have hsz := recT_le (n := n) hc hl l.length (Nat.le_refl _)
  have hsz' : (recB n l).size ≤ 2 + 1652 * l.length := hsz
  have h0 := rec_0 n l
  have hle := h0.le
  rw [numB_size] at hle
  have hx0 := h0.ext
  rw [numB_size] at hx0
  have hg0 := wgetN ((recB n l).extract 0 2) l.length 2 hx0 (by omega) (by omega) (by omega)
  have hlast : (recT n l l.length).size = (recB n l).size := rfl
  have hlen0 : decide (((recB n l).size : Int) < 2) = false := decide_eq_false (by omega)
  have hr1 : (0 : Int) ≤ 2 ∧ (2 : Int) ≤ ((recB n l).size : Int) := ⟨by omega, by omega⟩
  have hat := fun (k : Nat) (c : Chg) (h : l[k]? = some c) => rec_at' n h
  have hsu := fun (k : Nat) (c : Chg) (h : l[k]? = some c) => recT_size_succ n h
  have hT0 : (recT n l 0).size = 2 := by show (numB l.length 2).size = 2; rw [numB_size]
  generalize hS : recB n l = s at *
  refine spec_intro [] _ Tryz.func158 rfl Tryz.ntmps158 (by rfl) (fun w0 R => ?_)
  repeat' (first | (refine gY ?_; intros) | (refine hY ?_ ?_ <;> (intro hgd; try simp only [bn] at hgd)) | (refine jY ?_ ?_ <;> intro _) | fail)
  refine cl_Y (hg0) ?_
  intro _ _
  repeat' (first | (refine gY ?_; intros) | (refine hY ?_ ?_ <;> (intro hgd; try simp only [bn] at hgd)) | (refine jY ?_ ?_ <;> intro _) | fail)
  refine ok_map (L' := [pts bt (.cells [.string (s.extract (recT n l 0).size s.size)].toArray 9), P0, St P0 []] ++ R) (by rw [hT0]; exact entD) ?_
  refine ok_loop' (γ := Nat × List Cm × HProp × HProp) (fun g ρ L => g.2.1.length + g.1 = l.length ∧ AllR YcR g.2.2.1 l g.2.1 ∧ Ext P0 g.2.2.1 ∧ Ext g.2.2.1 g.2.2.2 ∧ Knows ρ [(0, yv), (1, .pointer (some ⟨bt, 0, none⟩)), (3, .int .u64 (g.1 : Int))] ∧
      L = [pts bt (.cells [.string (s.extract (recT n l g.2.1.length).size s.size)].toArray 9), g.2.2.2, St g.2.2.1 g.2.1] ++ R) (fun g => g.1) (l.length, [], P0, P0)
    ⟨by simp, .nil, .refl _, .refl _, ⟨rfl, rfl, rfl, trivial⟩, rfl⟩ ?_
  rintro ⟨m, bs, Pq, Pa⟩ ρ L ⟨hm, hall, hE0, hE1, hk, rfl⟩
  dsimp only at hm hall hE0 hE1 hk ⊢
  refine ok_regs hk ?_
  cases t1 : decide ((0 : Int) < (m : Int)) with
  | false =>
    have hm0 : m = 0 := by have := of_decide_eq_false t1; omega
    subst hm0
    have hbl : bs.length = l.length := by omega
    have hend : (s.extract (recT n l bs.length).size s.size).size = 0 := by rw [hbl, hlast]; simp
    have t2 : (!((s.extract (recT n l bs.length).size s.size).toList == (⟨#[]⟩ : ByteArray).toList)) = false := by rw [emp_size, hend]; rfl
    repeat' (first | (refine gY ?_; intros) | (refine hY ?_ ?_ <;> (intro hgd; try simp only [bn] at hgd)) | (refine jY ?_ ?_ <;> intro _) | fail)
    (refine rt_Y (y := (bs, Pq, Pa)) (hrs := Tryz.results158) (hv := ?_) (hφ := ?_))
    · rfl
    · exact ⟨hbl, hall, hE0, hE1⟩
  | true =>
    have hm1 : 0 < m := by have := of_decide_eq_true t1; omega
    have hkl : bs.length < l.length := by omega
    obtain ⟨c, hcl⟩ : ∃ c, l[bs.length]? = some c := ⟨_, List.getElem?_eq_getElem hkl⟩
    have hcm := hc c (List.mem_of_getElem? hcl)
    have hA := hat _ _ hcl
    have hS1 := hsu _ _ hcl
    have hle1 := hA.le
    rw [ByteArray.size_append, numB_size] at hle1
    have hez := recE_size (n := n) (k := bs.length) (l := l) hcm (by omega)
    have hrz := rest_size s (recT n l bs.length).size (by omega)
    have hR : At (s.extract (recT n l bs.length).size s.size) 0 (numB (recE n l bs.length c).size 4 ++ recE n l bs.length c) := At.rest (i := (recT n l bs.length).size) (j := 0) hA
    have hx4 := hR.left.ext
    have hxe := hR.right.ext
    rw [numB_size] at hx4 hxe
    rw [Nat.zero_add] at hx4 hxe
    have hrr := rest_rest s (recT n l bs.length).size (4 + (recE n l bs.length c).size) (by omega)
    rw [← hS1] at hrr
    have hge := evGet_spec (n : Int) (bs.length : Int) (nthC l bs.length c.table : Int) c Pa (hU.ext (hA0.trans (hE0.trans hE1))) (hcm.may _ _ (by omega) (by have := nthC_le l bs.length c.table; omega) (by omega)) (by omega) (by omega) hcm.wb hcm.wa
    have hE : putEB (n : Int) (bs.length : Int) (nthC l bs.length c.table : Int) c = recE n l bs.length c := rfl
    rw [hE] at hge
    generalize recE n l bs.length c = e at hx4 hxe hrr hge hez hle1 hS1
    generalize hoff : (recT n l bs.length).size = off at *
    generalize s.extract off s.size = rest at *
    have hg4 := wgetN (rest.extract 0 4) e.size 4 hx4 (by omega) (by omega) (by omega)
    have t2 : decide ((4 : Int) ≤ (rest.size : Int)) = true := decide_eq_true (by omega)
    have hw1 : IntKind.u64.wrap ((rest.size : Int) - 4) = (rest.size : Int) - 4 := by show ((rest.size : Int) - 4) % 18446744073709551616 = _; omega
    have hw2 : IntKind.u64.wrap (arith BinOp.add 4 (e.size : Int)) = 4 + (e.size : Int) := by show (4 + (e.size : Int)) % 18446744073709551616 = _; omega
    have hxe' : rest.extract (4 : Int).toNat (4 + (e.size : Int)).toNat = e := by rw [show (4 + (e.size : Int)).toNat = 4 + e.size by omega]; exact hxe
    have hrr' : rest.extract (4 + (e.size : Int)).toNat rest.size = s.extract (recT n l (bs.length + 1)).size s.size := by rw [show (4 + (e.size : Int)).toNat = 4 + e.size by omega]; exact hrr
    have hm2 : IntKind.u64.wrap (arith BinOp.sub (m : Int) 1) = ((m - 1 : Nat) : Int) := by show ((m : Int) - 1) % 18446744073709551616 = _; omega
    have t3 : decide ((rest.size : Int) - 4 < (e.size : Int)) = false := decide_eq_false (by omega)
    have hr2 : (0 : Int) ≤ 4 ∧ (4 : Int) ≤ (rest.size : Int) := ⟨by omega, by omega⟩
    have hr3 : (0 : Int) ≤ 4 ∧ (4 : Int) ≤ 4 + (e.size : Int) ∧ 4 + (e.size : Int) ≤ (rest.size : Int) := ⟨by omega, by omega, by omega⟩
    have hr4 : (0 : Int) ≤ 4 + (e.size : Int) ∧ 4 + (e.size : Int) ≤ (rest.size : Int) := ⟨by omega, by omega⟩
    repeat' (first | (refine gY ?_; intros) | (refine hY ?_ ?_ <;> (intro hgd; try simp only [bn] at hgd)) | (refine jY ?_ ?_ <;> intro _) | fail)
    refine cl_Y (hg4) ?_
    intro _ _
    repeat' (first | (refine gY ?_; intros) | (refine hY ?_ ?_ <;> (intro hgd; try simp only [bn] at hgd)) | (refine jY ?_ ?_ <;> intro _) | fail)
    rw [hw2, hxe']
    refine cl_Y (hge) ?_
    rintro ⟨c', P'⟩ ⟨hE', hcr, hce⟩
    dsimp only at hE' hcr hce ⊢
    have hyc := hy bs c c' Pq P' hcl hall hE0 (hE1.trans hE') ⟨hcr, hce⟩
    have hall' := fun (Pb : HProp) (hEb : Ext P' Pb) => AllR.snoc (fun x b h => YcR.ext ((hE1.trans hE').trans hEb) h) hall hcl (b := c') ⟨hcr.ext hEb, hce⟩
    have hb' : Vw P' 4 c'.bv.1 (c'.bef.map valV) := hcr.bv
    have ha' : Vw P' 4 c'.av.1 (c'.aft.map valV) := hcr.av
    generalize hbs' : bs ++ [c'] = bs' at hyc hall'
    have hbl' : bs'.length = bs.length + 1 := by rw [← hbs', List.length_append, List.length_singleton]
    clear hce hcr
    obtain ⟨ck', ct', ⟨bv', hbv'⟩, bef', ⟨av', hav'⟩, aft'⟩ := c'
    dsimp only [emV, cmV, ycV] at hyc hb' ha' ⊢
    refine ops_learn (VwIn.slice (VwIn.here hb')) ?_
    rintro ⟨pb', cb', rfl⟩
    refine ops_learn (VwIn.slice (VwIn.here ha')) ?_
    rintro ⟨pa', ca', rfl⟩
    repeat' (first | (refine gY ?_; intros) | (refine hY ?_ ?_ <;> (intro hgd; try simp only [bn] at hgd)) | (refine jY ?_ ?_ <;> intro _) | fail)
    refine clV_Y (hyc) ?_
    intro Pb hEb
    repeat' (first | (refine gY ?_; intros) | (refine hY ?_ ?_ <;> (intro hgd; try simp only [bn] at hgd)) | (refine jY ?_ ?_ <;> intro _) | fail)
    rw [hw2, hrr']
    refine cont_map (L' := [pts bt (.cells [.string (s.extract (recT n l bs'.length).size s.size)].toArray 9), Pb, St Pb bs'] ++ R) (by rw [hbl']; exact entD) ?_
    exact cont_back (m - 1, bs', Pb, Pb) ⟨by dsimp only; omega, hall' Pb hEb, hE0.trans ((hE1.trans hE').trans hEb), .refl _, ⟨rfl, rfl, by rw [← hm2]; rfl, trivial⟩, rfl⟩ (by dsimp only; omega)
theorem changes1_iter (bt n : Nat) (l : List Chg) (P0 : HProp) (hU : UT P0) (hn : n ≤ 1000000) (hl : l.length ≤ 199) (hc : ∀ c ∈ l, ChOk c) :
    IterSpecP Tryz.prog 158 [.pointer (some ⟨bt, 0, none⟩)] [pts bt (.cells [.string (recB n l)].toArray 9)] [] l ycV YcR P0 :=
  fun yv St hy => changes1_spec bt n l P0 hU hn hl hc yv St P0 (.refl _) hy
theorem sChgs_spec (s : BA) : FSpec Tryz.prog 108 [.string s] [] Nat (fun _ => True) (fun y => .func (.func 158) #[] [.pointer (some ⟨y, 0, none⟩)].toArray) (fun y => [pts y (.cells [.string s].toArray 9)]) := by
  refine spec_intro [] _ Tryz.func108 rfl Tryz.ntmps108 (by rfl) (fun w0 R => ?_)
  repeat' (first | (refine gY ?_; intros) | (refine hY ?_ ?_ <;> (intro hgd; try simp only [bn] at hgd)) | (refine jY ?_ ?_ <;> intro _) | fail)
  rename_i b1
  (refine rt_Y (y := b1) (hrs := Tryz.results108) (hv := ?_) (hφ := ?_))
  · rfl
  · trivial
end Go.Proofs.YtmnafjonbeihiaaGreatDoor
