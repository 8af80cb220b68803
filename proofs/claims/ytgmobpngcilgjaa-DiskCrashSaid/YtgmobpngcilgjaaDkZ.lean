/- The walk of DiskCrash. -/
import Derived.Test.YtgmobpngcilgjaaDkY
-- @DEFS Y
set_option linter.unusedSimpArgs false
set_option linter.unusedVariables false
set_option maxRecDepth 4000
namespace Go.Proofs.Ytgmobpngcilgjaa
open Go Go.Fx Go.Proofs Go.Pl

def St0 : St := ⟨0, ⟨#[]⟩, ⟨#[]⟩, 0, 0⟩
theorem kept_cases (n : Nat) (keep : Int) : ∃ k : Nat, k ≤ n ∧ (k = n ∨ (k : Int) = (if (0 : Int) > keep then 0 else keep)) ∧ (∀ d : Dk, d.loose.length = n → d.kept keep = k) ∧ (k : Int) ≤ (if (0 : Int) > keep then 0 else keep) := by
  refine ⟨(if (n : Int) < (if (0 : Int) > keep then 0 else keep) then (n : Int) else (if (0 : Int) > keep then 0 else keep)).toNat, ?_, ?_, ?_, ?_⟩
  · split <;> split <;> omega
  · split <;> split <;> omega
  · rintro d rfl; rfl
  · split <;> split <;> omega

/-- What is asked of a disk that the calls were done to again. -/
structure Fin4 (E : Dk) (keep torn : Int) (g : Dk) : Prop where
  files : g.files = (E.crash keep torn).files
  still : g.still = false
  nm : ∀ x ∈ g.files.map (·.1), mayN x = true
  cnt : g.files.length ≤ 999

set_option maxHeartbeats 2000000 in
theorem DiskCrash_spec (u u2 : Value) (A : HProp) (xs ys : List St) (keep torn : Int) (hA : Vw A 5 u (xs.map stV)) (hB : Vw A 5 u2 (ys.map stV)) (hz : ∀ x ∈ xs, x.name.size ≤ 140737488355328 ∧ x.text.size ≤ 140737488355328) (hz2 : ∀ x ∈ ys, x.name.size ≤ 140737488355328 ∧ x.text.size ≤ 140737488355328) :
    FSpec Try.prog 12 [u, u2, .int .i64 keep, .int .i64 torn] [A] Unit (fun _ => True) (fun _ => .bool true) (fun _ => [A]) := by
  have hlx : (xs.map stV).length = xs.length := by simp
  have hly : (ys.map stV).length = ys.length := by simp
  refine spec_intro [] _ Try.func12 rfl Try.ntmps12 (by rfl) (fun w0 R => ?_)
  refine ok_learn (VwIn.slice (VwIn.here hA)) ?_
  rintro ⟨pu, cu, rfl⟩
  refine ok_learn (VwIn.slice (VwIn.here hB)) ?_
  rintro ⟨pw, cw, rfl⟩
  repeat' (first | (refine go_Y ?_; intros) | (refine gs_Y ?_ ?_ <;> (intro hgd; try (simp only [Bool.not_true, Bool.not_false] at hgd))) | (refine gc_Y ?_ ?_ <;> intro _) | fail)
  refine cl_Y (Heavy_spec (.slice pu (xs.map stV).length cu) A xs hA hz) ?_
  intro y hy
  cases y with
  | true =>
    repeat' (first | (refine go_Y ?_; intros) | (refine gs_Y ?_ ?_ <;> (intro hgd; try (simp only [Bool.not_true, Bool.not_false] at hgd))) | (refine gc_Y ?_ ?_ <;> intro _) | fail)
    refine cl_Y (alive_disk) ?_
    intro _ _
    repeat' (first | (refine go_Y ?_; intros) | (refine gs_Y ?_ ?_ <;> (intro hgd; try (simp only [Bool.not_true, Bool.not_false] at hgd))) | (refine gc_Y ?_ ?_ <;> intro _) | fail)
    (refine rt_Y (y := ()) (hrs := Try.results12) (hv := ?_) (hφ := ?_))
    · rfl
    · trivial
  | false =>
  obtain ⟨hx150, hwx⟩ := hy rfl
  repeat' (first | (refine go_Y ?_; intros) | (refine gs_Y ?_ ?_ <;> (intro hgd; try (simp only [Bool.not_true, Bool.not_false] at hgd))) | (refine gc_Y ?_ ?_ <;> intro _) | fail)
  refine cl_Y (Heavy_spec (.slice pw (ys.map stV).length cw) A ys hB hz2) ?_
  intro y hy
  cases y with
  | true =>
    repeat' (first | (refine go_Y ?_; intros) | (refine gs_Y ?_ ?_ <;> (intro hgd; try (simp only [Bool.not_true, Bool.not_false] at hgd))) | (refine gc_Y ?_ ?_ <;> intro _) | fail)
    refine cl_Y (alive_disk) ?_
    intro _ _
    repeat' (first | (refine go_Y ?_; intros) | (refine gs_Y ?_ ?_ <;> (intro hgd; try (simp only [Bool.not_true, Bool.not_false] at hgd))) | (refine gc_Y ?_ ?_ <;> intro _) | fail)
    (refine rt_Y (y := ()) (hrs := Try.results12) (hv := ?_) (hφ := ?_))
    · rfl
    · trivial
  | false =>
  obtain ⟨hy150, hwy⟩ := hy rfl
  repeat' (first | (refine go_Y ?_; intros) | (refine gs_Y ?_ ?_ <;> (intro hgd; try (simp only [Bool.not_true, Bool.not_false] at hgd))) | (refine gc_Y ?_ ?_ <;> intro _) | fail)
  refine cl_Y (new_spec 131072 (by decide) (by decide)) ?_
  intro b _
  repeat' (first | (refine go_Y ?_; intros) | (refine gs_Y ?_ ?_ <;> (intro hgd; try (simp only [Bool.not_true, Bool.not_false] at hgd))) | (refine gc_Y ?_ ?_ <;> intro _) | fail)
  refine cl_Y (new_spec 131072 (by decide) (by decide)) ?_
  intro c _
  repeat' (first | (refine go_Y ?_; intros) | (refine gs_Y ?_ ?_ <;> (intro hgd; try (simp only [Bool.not_true, Bool.not_false] at hgd))) | (refine gc_Y ?_ ?_ <;> intro _) | fail)
  refine ok_map (L' := [diskP b (newD 131072), diskP c (newD 131072), A] ++ R) entD ?_
  refine ok_loop' (γ := Nat × Dk) (fun g ρ L => g.1 ≤ xs.length ∧ Dq g.1 g.2 ∧ Knows ρ [(0, .slice pu (xs.map stV).length cu), (1, .slice pw (ys.map stV).length cw), (2, .int .i64 keep), (3, .int .i64 torn), (9, .pointer (some ⟨b, 0, none⟩)), (11, .pointer (some ⟨c, 0, none⟩)), (13, .int .i64 g.1)] ∧ L = [diskP b g.2, diskP c g.2, A] ++ R)
    (fun g => xs.length - g.1) (0, newD 131072) ⟨by simp, Dq.new, ⟨rfl, rfl, rfl, rfl, rfl, rfl, rfl, trivial⟩, rfl⟩ ?_
  rintro ⟨i, D⟩ ρ L ⟨hi, hD, hk, rfl⟩
  dsimp only at hi hD hk ⊢
  refine ok_regs hk ?_
  cases t1 : decide ((i : Int) < ((xs.map stV).length : Int)) with
  | true =>
    have h : i < xs.length := by have := of_decide_eq_true t1; omega
    have hn1 : i < (xs.map stV).length := by omega
    have hx : (xs.map stV)[i]? = some (stV xs[i]) := by rw [List.getElem?_map, List.getElem?_eq_getElem h]; rfl
    have hw := wts_mem (List.getElem_mem h)
    refine ok_learn (VwIn.base (VwIn.there (VwIn.there (VwIn.here hA))) (by intro e; rw [e] at hn1; simp at hn1)) ?_
    rintro ⟨bu, ou, rfl⟩
    generalize xs[i] = x at hx hw
    have hch := changes_spec x
    have hlc := hD.lcnt
    have hc1 := Call_spec b D x hD.ok (by omega) (by omega) (by omega)
    have hc2 := Call_spec c D x hD.ok (by omega) (by omega) (by omega)
    have hD' := hD.call (x := x) (by omega)
    have hee : (!decide ((callD D x).2 = (callD D x).2)) = false := by simp
    dsimp only [stV] at hx hch hc1 hc2
    cases hcx : chg x with
    | false =>
      rw [hcx] at hch
      repeat' (first | (refine go_Y ?_; intros) | (refine gs_Y ?_ ?_ <;> (intro hgd; try (simp only [Bool.not_true, Bool.not_false] at hgd))) | (refine gc_Y ?_ ?_ <;> intro _) | fail)
      refine ok_drawL (cv := []) [4, 11] ([A]) (takeD) (by kernel_rfl) rfl (by decide +kernel) ?_
      repeat' (first | (refine go_Y ?_; intros) | (refine gs_Y ?_ ?_ <;> (intro hgd; try (simp only [Bool.not_true, Bool.not_false] at hgd))) | (refine gc_Y ?_ ?_ <;> intro _) | fail)
      refine clN_Y (hch) ?_
      intro _ _
      repeat' (first | (refine go_Y ?_; intros) | (refine gs_Y ?_ ?_ <;> (intro hgd; try (simp only [Bool.not_true, Bool.not_false] at hgd))) | (refine gc_Y ?_ ?_ <;> intro _) | fail)
      refine cont_back (i + 1, D) ⟨h, hD.mono (by omega), ⟨rfl, rfl, rfl, rfl, rfl, rfl, rfl, trivial⟩, rfl⟩ (by dsimp only; omega)
    | true =>
      rw [hcx] at hch
      repeat' (first | (refine go_Y ?_; intros) | (refine gs_Y ?_ ?_ <;> (intro hgd; try (simp only [Bool.not_true, Bool.not_false] at hgd))) | (refine gc_Y ?_ ?_ <;> intro _) | fail)
      refine ok_drawL (cv := []) [4, 11] ([A]) (takeD) (by kernel_rfl) rfl (by decide +kernel) ?_
      repeat' (first | (refine go_Y ?_; intros) | (refine gs_Y ?_ ?_ <;> (intro hgd; try (simp only [Bool.not_true, Bool.not_false] at hgd))) | (refine gc_Y ?_ ?_ <;> intro _) | fail)
      refine clN_Y (hch) ?_
      intro _ _
      repeat' (first | (refine go_Y ?_; intros) | (refine gs_Y ?_ ?_ <;> (intro hgd; try (simp only [Bool.not_true, Bool.not_false] at hgd))) | (refine gc_Y ?_ ?_ <;> intro _) | fail)
      refine clN_Y (hc1) ?_
      intro _ _
      repeat' (first | (refine go_Y ?_; intros) | (refine gs_Y ?_ ?_ <;> (intro hgd; try (simp only [Bool.not_true, Bool.not_false] at hgd))) | (refine gc_Y ?_ ?_ <;> intro _) | fail)
      refine cl_Y (hc2) ?_
      intro _ _
      repeat' (first | (refine go_Y ?_; intros) | (refine gs_Y ?_ ?_ <;> (intro hgd; try (simp only [Bool.not_true, Bool.not_false] at hgd))) | (refine gc_Y ?_ ?_ <;> intro _) | fail)
      refine cont_map (L' := [diskP b (callD D x).1, diskP c (callD D x).1, A] ++ R) entD ?_
      refine cont_back (i + 1, (callD D x).1) ⟨h, hD', ⟨rfl, rfl, rfl, rfl, rfl, rfl, rfl, trivial⟩, rfl⟩ (by dsimp only; omega)
  | false =>
    have hD150 := hD.mono (m := 200) (by omega)
    clear hD
    obtain ⟨hsy, hD2, hL2, hS2⟩ := hD150.sync
    have hs1 := sync_spec b D hD150.ok
    have hs2 := sync_spec c D hD150.ok
    rw [hsy] at hs1 hs2
    generalize D.sync.1 = D2 at hs1 hs2 hD2 hL2 hS2
    repeat' (first | (refine go_Y ?_; intros) | (refine gs_Y ?_ ?_ <;> (intro hgd; try (simp only [Bool.not_true, Bool.not_false] at hgd))) | (refine gc_Y ?_ ?_ <;> intro _) | fail)
    refine cl_Y (hs1) ?_
    intro _ _
    repeat' (first | (refine go_Y ?_; intros) | (refine gs_Y ?_ ?_ <;> (intro hgd; try (simp only [Bool.not_true, Bool.not_false] at hgd))) | (refine gc_Y ?_ ?_ <;> intro _) | fail)
    refine cl_Y (hs2) ?_
    intro _ _
    repeat' (first | (refine go_Y ?_; intros) | (refine gs_Y ?_ ?_ <;> (intro hgd; try (simp only [Bool.not_true, Bool.not_false] at hgd))) | (refine gc_Y ?_ ?_ <;> intro _) | fail)
    refine ok_map (fun _ h => rowNilK (e := 43) (n := 5) h) ?_
    refine ok_map (L' := [row 43 5 (.slice none 0 0) (([] : List St).map stV), diskP b (runS D2 []), diskP c D2, A] ++ R) entD ?_
    refine ok_loop' (γ := Nat × List St × { v : Value // v.oneCell' = true }) (fun g ρ L => g.1 ≤ ys.length ∧ g.2.1.length ≤ g.1 ∧ (∀ x ∈ g.2.1, x ∈ ys) ∧ allS D2 g.2.1 ∧ Knows ρ [(1, .slice pw (ys.map stV).length cw), (2, .int .i64 keep), (3, .int .i64 torn), (9, .pointer (some ⟨b, 0, none⟩)), (11, .pointer (some ⟨c, 0, none⟩)), (14, g.2.2.1), (15, .int .i64 g.1)] ∧
      L = [row 43 5 g.2.2.1 (g.2.1.map stV), diskP b (runS D2 g.2.1), diskP c D2, A] ++ R) (fun g => ys.length - g.1) (0, [], ⟨.slice none 0 0, rfl⟩) ⟨by simp, by simp, by simp, trivial, ⟨rfl, rfl, rfl, rfl, rfl, rfl, rfl, trivial⟩, rfl⟩ ?_
    rintro ⟨j, l, ⟨v, hv⟩⟩ ρ L ⟨hj, hlj, hin, hall, hk, rfl⟩
    dsimp only at hj hlj hin hall hk ⊢
    refine ok_regs hk ?_
    have hlm : (l.map stV).length = l.length := by simp
    have htx : ∀ x ∈ l, x.text.size ≤ 549755813888 := fun x hx => by have := wts_mem (hin x hx); omega
    have hst := runS_state hD2 hall htx
    have hEl : (runS D2 l).loose.length = l.length := by rw [hst.2.1, hL2]; simp
    cases t2 : decide ((j : Int) < ((ys.map stV).length : Int)) with
    | true =>
      have h : j < ys.length := by have := of_decide_eq_true t2; omega
      have hn1 : j < (ys.map stV).length := by omega
      have hx : (ys.map stV)[j]? = some (stV ys[j]) := by rw [List.getElem?_map, List.getElem?_eq_getElem h]; rfl
      have hw := wts_mem (List.getElem_mem h)
      have hmy : ys[j] ∈ ys := List.getElem_mem h
      refine ok_learn (VwIn.base (VwIn.there (VwIn.there (VwIn.there (VwIn.here hB)))) (by intro e; rw [e] at hn1; simp at hn1)) ?_
      rintro ⟨bu, ou, rfl⟩
      generalize ys[j] = x at hx hw hmy
      have hch := changes_spec x
      have hc1 := Call_spec b (runS D2 l) x hst.1.ok (by omega) (by omega) (by omega)
      have hone := call_one (d := runS D2 l) (x := x) hst.1.fuse
      have hsn := runS_snoc D2 l x
      have hmv : (l ++ [x]).map stV = l.map stV ++ [stV x] := by simp
      dsimp only [stV] at hx hch hc1
      cases hcx : chg x with
      | false =>
        rw [hcx] at hch
        repeat' (first | (refine go_Y ?_; intros) | (refine gs_Y ?_ ?_ <;> (intro hgd; try (simp only [Bool.not_true, Bool.not_false] at hgd))) | (refine gc_Y ?_ ?_ <;> intro _) | fail)
        refine cl_Y (hch) ?_
        intro _ _
        repeat' (first | (refine go_Y ?_; intros) | (refine gs_Y ?_ ?_ <;> (intro hgd; try (simp only [Bool.not_true, Bool.not_false] at hgd))) | (refine gc_Y ?_ ?_ <;> intro _) | fail)
        refine cont_back (j + 1, l, ⟨v, hv⟩) ⟨h, by dsimp only; omega, hin, hall, ⟨rfl, rfl, rfl, rfl, rfl, rfl, rfl, trivial⟩, rfl⟩ (by dsimp only; omega)
      | true =>
        rw [hcx] at hch
        cases he : decide ((callD (runS D2 l) x).2 = 0) with
        | true =>
          have he' : (callD (runS D2 l) x).2 = 0 := of_decide_eq_true he
          repeat' (first | (refine go_Y ?_; intros) | (refine gs_Y ?_ ?_ <;> (intro hgd; try (simp only [Bool.not_true, Bool.not_false] at hgd))) | (refine gc_Y ?_ ?_ <;> intro _) | fail)
          refine cl_Y (hch) ?_
          intro _ _
          repeat' (first | (refine go_Y ?_; intros) | (refine gs_Y ?_ ?_ <;> (intro hgd; try (simp only [Bool.not_true, Bool.not_false] at hgd))) | (refine gc_Y ?_ ?_ <;> intro _) | fail)
          refine cl_Y (hc1) ?_
          intro _ _
          repeat' (first | (refine go_Y ?_; intros) | (refine gs_Y ?_ ?_ <;> (intro hgd; try (simp only [Bool.not_true, Bool.not_false] at hgd))) | (refine gc_Y ?_ ?_ <;> intro _) | fail)
          rename_i v1 hv1 v2 hv2
          refine cont_map (L' := [row 43 5 v2 ((l ++ [x]).map stV), diskP b (runS D2 (l ++ [x])), diskP c D2, A] ++ R) (by rw [hmv, hsn]; exact entD) ?_
          refine cont_back (j + 1, l ++ [x], ⟨v2, hv2⟩) ⟨h, by simp; omega, ?_, allS_snoc hall he', ⟨rfl, rfl, rfl, rfl, rfl, rfl, rfl, trivial⟩, rfl⟩ (by dsimp only; omega)
          intro y hy
          rcases List.mem_append.1 hy with hy | hy
          · exact hin y hy
          · rw [List.mem_singleton.1 hy]; exact hmy
        | false =>
          have hsame : (callD (runS D2 l) x).1 = runS D2 l := by
            rcases hone with ⟨h0, _⟩ | ⟨_, h1⟩
            · exact absurd h0 (of_decide_eq_false he)
            · exact h1
          rw [hsame] at hc1
          repeat' (first | (refine go_Y ?_; intros) | (refine gs_Y ?_ ?_ <;> (intro hgd; try (simp only [Bool.not_true, Bool.not_false] at hgd))) | (refine gc_Y ?_ ?_ <;> intro _) | fail)
          refine cl_Y (hch) ?_
          intro _ _
          repeat' (first | (refine go_Y ?_; intros) | (refine gs_Y ?_ ?_ <;> (intro hgd; try (simp only [Bool.not_true, Bool.not_false] at hgd))) | (refine gc_Y ?_ ?_ <;> intro _) | fail)
          refine cl_Y (hc1) ?_
          intro _ _
          repeat' (first | (refine go_Y ?_; intros) | (refine gs_Y ?_ ?_ <;> (intro hgd; try (simp only [Bool.not_true, Bool.not_false] at hgd))) | (refine gc_Y ?_ ?_ <;> intro _) | fail)
          refine cont_map (L' := [row 43 5 v (l.map stV), diskP b (runS D2 l), diskP c D2, A] ++ R) entD ?_
          refine cont_back (j + 1, l, ⟨v, hv⟩) ⟨h, by dsimp only; omega, hin, hall, ⟨rfl, rfl, rfl, rfl, rfl, rfl, rfl, trivial⟩, rfl⟩ (by dsimp only; omega)
    | false =>
      have hll : l.length ≤ 150 := by omega
      generalize hE : runS D2 l = E at hst hEl
      have hloo := Loose_spec b E
      rw [hEl] at hloo
      have t3 : (!decide ((l.length : Int) = ((l.map stV).length : Int))) = false := by rw [hlm]; simp
      refine ok_learn (VwIn.slice (VwIn.here (Vw.row (e := 43) (n := 5) (v := v) (xs := l.map stV)))) ?_
      rintro ⟨pl, cl, rfl⟩
      repeat' (first | (refine go_Y ?_; intros) | (refine gs_Y ?_ ?_ <;> (intro hgd; try (simp only [Bool.not_true, Bool.not_false] at hgd))) | (refine gc_Y ?_ ?_ <;> intro _) | fail)
      refine cl_Y (hloo) ?_
      intro _ _
      repeat' (first | (refine ro_Y ?_; intros) | fail)
      refine cont_then (ok_cond_false (by (conv => lhs; whnf); first | done | with_reducible rfl | (refine congrArg Value.bool ?_; with_reducible assumption)) (ok_skip ?_))
      refine cont_then ?_
      obtain ⟨k, hkl, hkc, hkd, hkm⟩ := kept_cases l.length keep
      have hTW : (k = l.length ∨ ∃ x, l[k]? = some x ∧ (x.op ≠ 1 ∨ torn < 1)) → (E.crash keep torn).files = (runS D2 (l.take k)).files := fun h => by
        rw [crash_files, hkd E hEl, ← hE]; exact torn_whole hD2 hL2 hS2 hall htx h
      have hTP : ∀ x, l[k]? = some x → x.op = 1 → 1 ≤ torn → (E.crash keep torn).files = (callD (runS D2 (l.take k)) (cutS x torn)).1.files := fun x hx ho ht => by
        rw [crash_files, hkd E hEl, ← hE]; exact torn_piece hD2 hL2 hS2 hall htx hx ho ht
      have hXD : ∀ i, Dq 400 (runS D2 (l.take i)) := fun i => (runS_state hD2 (runS_take (k := i) hD2 hall htx) (fun x hx => htx x (List.mem_of_mem_take hx))).1.mono (by rw [List.length_take]; omega)
      have hfin1 : (k = l.length ∨ ∃ x, l[k]? = some x ∧ (x.op ≠ 1 ∨ torn < 1)) → Fin4 E keep torn (runS D2 (l.take k)) := fun h => ⟨(hTW h).symm, (hXD k).still, (hXD k).nm, by have := (hXD k).cnt; omega⟩
      refine ok_meet (γ := Dk) (fun g ρ L => Fin4 E keep torn g ∧ Knows ρ [(2, .int .i64 keep), (3, .int .i64 torn), (9, .pointer (some ⟨b, 0, none⟩)), (11, .pointer (some ⟨c, 0, none⟩))] ∧ L = [diskP b E, diskP c g, A] ++ R) ?_ ?_
      · repeat' (first | (refine go_Y ?_; intros) | (refine gs_Y ?_ ?_ <;> (intro hgd; try (simp only [Bool.not_true, Bool.not_false] at hgd))) | (refine gc_Y ?_ ?_ <;> intro _) | fail)
        refine ok_map (L' := [row 43 5 (.slice pl (l.map stV).length cl) (l.map stV), diskP b E, diskP c (runS D2 (l.take 0)), A] ++ R) entD ?_
        refine ok_loop' (γ := Nat × Dk) (fun g ρ L => g.1 ≤ l.length ∧ ((g.1 ≤ k ∧ g.2 = runS D2 (l.take g.1)) ∨ (g.1 = k + 1 ∧ k < l.length ∧ Fin4 E keep torn g.2)) ∧ Knows ρ [(2, .int .i64 keep), (3, .int .i64 torn), (9, .pointer (some ⟨b, 0, none⟩)), (11, .pointer (some ⟨c, 0, none⟩)), (14, .slice pl (l.map stV).length cl), (16, .int .i64 g.1)] ∧
          L = [row 43 5 (.slice pl (l.map stV).length cl) (l.map stV), diskP b E, diskP c g.2, A] ++ R) (fun g => l.length - g.1) (0, runS D2 (l.take 0)) ⟨by simp, .inl ⟨Nat.zero_le _, rfl⟩, ⟨rfl, rfl, rfl, rfl, rfl, rfl, trivial⟩, rfl⟩ ?_
        rintro ⟨i, X⟩ ρ L ⟨hi, hor, hk, rfl⟩
        dsimp only at hi hor hk ⊢
        refine ok_regs hk ?_
        cases t4 : decide ((i : Int) < ((l.map stV).length : Int)) with
        | false =>
          have hie : i = l.length := by have := of_decide_eq_false t4; omega
          have hfin : Fin4 E keep torn X := by
            rcases hor with ⟨hik, rfl⟩ | ⟨_, _, hf⟩
            · have : i = k := by omega
              subst this
              exact hfin1 (.inl hie)
            · exact hf
          repeat' (first | (refine go_Y ?_; intros) | (refine gs_Y ?_ ?_ <;> (intro hgd; try (simp only [Bool.not_true, Bool.not_false] at hgd))) | (refine gc_Y ?_ ?_ <;> intro _) | fail)
          refine cont_map (L' := [diskP b E, diskP c X, A] ++ R) entD ?_
          refine cont_meet X ⟨hfin, ⟨rfl, rfl, rfl, rfl, trivial⟩, rfl⟩
        | true =>
          have h : i < l.length := by have := of_decide_eq_true t4; omega
          have hn1 : i < (l.map stV).length := by omega
          have hli : l[i]? = some l[i] := List.getElem?_eq_getElem h
          have hx : (l.map stV)[i]? = some (stV l[i]) := by rw [List.getElem?_map, hli]; rfl
          have htk : l.take (i + 1) = l.take i ++ [l[i]] := List.take_succ_eq_append_getElem h
          have hw := wts_mem (hin _ (List.getElem_mem h))
          refine ok_learn (VwIn.base (n := 5) (p := pl) (len := (l.map stV).length) (cap := cl) (xs := l.map stV) (VwIn.here Vw.row) (by intro e; rw [e] at hn1; simp at hn1)) ?_
          rintro ⟨bu, ou, rfl⟩
          generalize l[i] = x at hx hw hli htk
          dsimp only [stV] at hx
          rcases hor with ⟨hik, hXe⟩ | ⟨hik, hkl', hfin⟩
          · have hXi := hXD i
            rw [← hXe] at hXi
            have hXl := hXi.lcnt
            rcases Nat.lt_or_ge i k with c1 | c1
            · have u1 : decide (keep ≤ (i : Int)) = false := by
                rw [decide_eq_false_iff_not]
                intro hc
                split at hkm <;> omega
              have h0 := allS_at hall hli
              rw [← hXe] at h0
              have hc1 := Call_spec c X x hXi.ok (by omega) (by omega) (by omega)
              rw [h0] at hc1
              dsimp only [stV] at hc1
              have hnx : (callD X x).1 = runS D2 (l.take (i + 1)) := by rw [htk, runS_snoc, ← hXe]
              repeat' (first | (refine go_Y ?_; intros) | (refine gs_Y ?_ ?_ <;> (intro hgd; try (simp only [Bool.not_true, Bool.not_false] at hgd))) | (refine gc_Y ?_ ?_ <;> intro _) | fail)
              refine cl_Y (hc1) ?_
              intro _ _
              repeat' (first | (refine go_Y ?_; intros) | (refine gs_Y ?_ ?_ <;> (intro hgd; try (simp only [Bool.not_true, Bool.not_false] at hgd))) | (refine gc_Y ?_ ?_ <;> intro _) | fail)
              refine cont_map (L' := [row 43 5 (.slice (some ⟨bu, ou, none⟩) (l.map stV).length cl) (l.map stV), diskP b E, diskP c (callD X x).1, A] ++ R) entD ?_
              refine cont_back (i + 1, (callD X x).1) ⟨h, .inl ⟨c1, hnx⟩, ⟨rfl, rfl, rfl, rfl, rfl, rfl, trivial⟩, rfl⟩ (by dsimp only; omega)
            · have hie : i = k := by omega
              have hk2 : (k : Int) = (if (0 : Int) > keep then 0 else keep) := by
                rcases hkc with e | e
                · omega
                · exact e
              have u1 : decide (keep ≤ (i : Int)) = true := by
                rw [decide_eq_true_eq, hie, hk2]
                split <;> omega
              have u2 : decide ((if (0 : Int) > keep then 0 else keep) < (i : Int)) = false := by
                rw [← hk2, decide_eq_false_iff_not]; omega
              cases u3 : (!decide (x.op = 1)) with
              | true =>
                have hfin : Fin4 E keep torn X := by
                  rw [hXe, hie]
                  exact hfin1 (.inr ⟨x, by rw [← hie]; exact hli, .inl (by simpa using u3)⟩)
                repeat' (first | (refine go_Y ?_; intros) | (refine gs_Y ?_ ?_ <;> (intro hgd; try (simp only [Bool.not_true, Bool.not_false] at hgd))) | (refine gc_Y ?_ ?_ <;> intro _) | fail)
                refine cont_map (L' := [diskP b E, diskP c X, A] ++ R) entD ?_
                refine cont_meet X ⟨hfin, ⟨rfl, rfl, rfl, rfl, trivial⟩, rfl⟩
              | false =>
                have ho : x.op = 1 := by simpa using u3
                cases u4 : decide (torn < 1) with
                | true =>
                  have hfin : Fin4 E keep torn X := by
                    rw [hXe, hie]
                    exact hfin1 (.inr ⟨x, by rw [← hie]; exact hli, .inr (of_decide_eq_true u4)⟩)
                  repeat' (first | (refine go_Y ?_; intros) | (refine gs_Y ?_ ?_ <;> (intro hgd; try (simp only [Bool.not_true, Bool.not_false] at hgd))) | (refine gc_Y ?_ ?_ <;> intro _) | fail)
                  refine cont_map (L' := [diskP b E, diskP c X, A] ++ R) entD ?_
                  refine cont_meet X ⟨hfin, ⟨rfl, rfl, rfl, rfl, trivial⟩, rfl⟩
                | false =>
                  have ht1 : 1 ≤ torn := by have := of_decide_eq_false u4; omega
                  have h0 := allS_at hall hli
                  rw [← hXe] at h0
                  have hc0 := cut_call hXi ho h0 torn
                  have hcz : (cutS x torn).text.size ≤ x.text.size := by unfold cutS; dsimp only; rw [ByteArray.size_extract]; omega
                  have hc1 := Call_spec c X (cutS x torn) hXi.ok (by omega) (by show x.name.size ≤ _; omega) (by omega)
                  have hDc := hXi.call (x := cutS x torn) (by omega)
                  have hfin : Fin4 E keep torn (callD X (cutS x torn)).1 := by
                    refine ⟨?_, hDc.still, hDc.nm, by have := hDc.cnt; omega⟩
                    rw [hTP x (by rw [← hie]; exact hli) ho ht1, hXe, hie]
                  rw [hc0] at hc1
                  have hmin : 0 ≤ (if (x.text.size : Int) < torn then (x.text.size : Int) else torn) ∧ (if (x.text.size : Int) < torn then (x.text.size : Int) else torn) ≤ (x.text.size : Int) := by split <;> omega
                  generalize callD X (cutS x torn) = r at hc1 hfin
                  dsimp only [stV, cutS] at hc1
                  repeat' (first | (refine go_Y ?_; intros) | (refine gs_Y ?_ ?_ <;> (intro hgd; try (simp only [Bool.not_true, Bool.not_false] at hgd))) | (refine gc_Y ?_ ?_ <;> intro _) | fail)
                  refine cl_Y (hc1) ?_
                  intro _ _
                  repeat' (first | (refine go_Y ?_; intros) | (refine gs_Y ?_ ?_ <;> (intro hgd; try (simp only [Bool.not_true, Bool.not_false] at hgd))) | (refine gc_Y ?_ ?_ <;> intro _) | fail)
                  refine cont_map (L' := [row 43 5 (.slice (some ⟨bu, ou, none⟩) (l.map stV).length cl) (l.map stV), diskP b E, diskP c r.1, A] ++ R) entD ?_
                  refine cont_back (i + 1, r.1) ⟨h, .inr ⟨by dsimp only; omega, by omega, hfin⟩, ⟨rfl, rfl, rfl, rfl, rfl, rfl, trivial⟩, rfl⟩ (by dsimp only; omega)
          · have hk2 : (k : Int) = (if (0 : Int) > keep then 0 else keep) := by
              rcases hkc with e | e
              · omega
              · exact e
            have u1 : decide (keep ≤ (i : Int)) = true := by
              rw [decide_eq_true_eq]
              have : keep ≤ (if (0 : Int) > keep then 0 else keep) := by split <;> omega
              omega
            have u2 : decide ((if (0 : Int) > keep then 0 else keep) < (i : Int)) = true := by
              rw [← hk2, decide_eq_true_eq]; omega
            repeat' (first | (refine go_Y ?_; intros) | (refine gs_Y ?_ ?_ <;> (intro hgd; try (simp only [Bool.not_true, Bool.not_false] at hgd))) | (refine gc_Y ?_ ?_ <;> intro _) | fail)
            refine cont_map (L' := [diskP b E, diskP c X, A] ++ R) entD ?_
            refine cont_meet X ⟨hfin, ⟨rfl, rfl, rfl, rfl, trivial⟩, rfl⟩
      · rintro g ρ L ⟨hf, hk, rfl⟩
        refine ok_regs hk ?_
        have hC1 := crash_spec b E keep torn hst.1.ok (by omega)
        have hCo := hst.1.ok.crash keep torn
        have hCf := hf.files
        have hCs : (E.crash keep torn).still = false := rfl
        have hCl : (E.crash keep torn).loose = [] := rfl
        have hCu : (E.crash keep torn).sure = (E.crash keep torn).files := rfl
        generalize E.crash keep torn = C at hC1 hCo hCf hCs hCl hCu
        have hLo := Loose_spec b C
        rw [hCl] at hLo
        have u0 : (!decide (((([] : List Cl).length : Nat) : Int) = 0)) = false := by decide
        have hC2 := crash_spec b C torn keep hCo (by rw [hCl]; simp)
        have hC2f : (C.crash torn keep).files = g.files := by rw [crash_none hCl, hCu, hCf]
        have hC2s : (C.crash torn keep).still = false := rfl
        generalize C.crash torn keep = C2 at hC2 hC2f hC2s
        have hF1 := Files_spec b C hCs (by rw [← hCf]; exact hf.nm) (by rw [← hCf]; exact hf.cnt)
        rw [← hCf] at hF1
        have hF2 := Files_spec c g hf.still hf.nm hf.cnt
        have hF3 := Files_spec b C2 hC2s (by rw [hC2f]; exact hf.nm) (by rw [hC2f]; exact hf.cnt)
        rw [hC2f] at hF3
        have hfl : (filesL g.files).length ≤ 4611686018427387904 := by
          have := hf.cnt
          unfold filesL; rw [List.length_map, sortN_len, List.length_map]; omega
        generalize filesL g.files = fs at hF1 hF2 hF3 hfl
        repeat' (first | (refine go_Y ?_; intros) | (refine gs_Y ?_ ?_ <;> (intro hgd; try (simp only [Bool.not_true, Bool.not_false] at hgd))) | (refine gc_Y ?_ ?_ <;> intro _) | fail)
        refine cl_Y (hC1) ?_
        intro _ _
        repeat' (first | (refine go_Y ?_; intros) | (refine gs_Y ?_ ?_ <;> (intro hgd; try (simp only [Bool.not_true, Bool.not_false] at hgd))) | (refine gc_Y ?_ ?_ <;> intro _) | fail)
        refine cl_Y (hLo) ?_
        intro _ _
        repeat' (first | (refine go_Y ?_; intros) | (refine gs_Y ?_ ?_ <;> (intro hgd; try (simp only [Bool.not_true, Bool.not_false] at hgd))) | (refine gc_Y ?_ ?_ <;> intro _) | fail)
        refine cl_Y (hF1) ?_
        rintro ⟨v1, hv1⟩ _
        repeat' (first | (refine go_Y ?_; intros) | (refine gs_Y ?_ ?_ <;> (intro hgd; try (simp only [Bool.not_true, Bool.not_false] at hgd))) | (refine gc_Y ?_ ?_ <;> intro _) | fail)
        refine cl_Y (hF2) ?_
        rintro ⟨v2, hv2⟩ _
        repeat' (first | (refine go_Y ?_; intros) | (refine gs_Y ?_ ?_ <;> (intro hgd; try (simp only [Bool.not_true, Bool.not_false] at hgd))) | (refine gc_Y ?_ ?_ <;> intro _) | fail)
        refine cl_Y (filesSame_spec v1 v2 (row 177 2 v1 (fs.map fileV)) (row 177 2 v2 (fs.map fileV)) fs Vw.row Vw.row hfl) ?_
        intro _ _
        repeat' (first | (refine go_Y ?_; intros) | (refine gs_Y ?_ ?_ <;> (intro hgd; try (simp only [Bool.not_true, Bool.not_false] at hgd))) | (refine gc_Y ?_ ?_ <;> intro _) | fail)
        refine cl_Y (hC2) ?_
        intro _ _
        repeat' (first | (refine go_Y ?_; intros) | (refine gs_Y ?_ ?_ <;> (intro hgd; try (simp only [Bool.not_true, Bool.not_false] at hgd))) | (refine gc_Y ?_ ?_ <;> intro _) | fail)
        refine cl_Y (hF3) ?_
        rintro ⟨v3, hv3⟩ _
        repeat' (first | (refine go_Y ?_; intros) | (refine gs_Y ?_ ?_ <;> (intro hgd; try (simp only [Bool.not_true, Bool.not_false] at hgd))) | (refine gc_Y ?_ ?_ <;> intro _) | fail)
        refine cl_Y (filesSame_spec v1 v3 (row 177 2 v1 (fs.map fileV)) (row 177 2 v3 (fs.map fileV)) fs Vw.row Vw.row hfl) ?_
        intro _ _
        repeat' (first | (refine go_Y ?_; intros) | (refine gs_Y ?_ ?_ <;> (intro hgd; try (simp only [Bool.not_true, Bool.not_false] at hgd))) | (refine gc_Y ?_ ?_ <;> intro _) | fail)
        refine cl_Y (alive_disk) ?_
        intro _ _
        repeat' (first | (refine go_Y ?_; intros) | (refine gs_Y ?_ ?_ <;> (intro hgd; try (simp only [Bool.not_true, Bool.not_false] at hgd))) | (refine gc_Y ?_ ?_ <;> intro _) | fail)
        (refine rt_Y (y := ()) (hrs := Try.results12) (hv := ?_) (hφ := ?_))
        · rfl
        · trivial
end Go.Proofs.Ytgmobpngcilgjaa
