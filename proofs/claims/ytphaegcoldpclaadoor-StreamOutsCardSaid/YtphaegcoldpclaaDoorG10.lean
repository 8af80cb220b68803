/- Texts merged: SoA SoB SoC SoD. -/
import Derived.Test.YtphaegcoldpclaaDoorG2
import Derived.Test.YtphaegcoldpclaaDoorG5
import Derived.Test.YtphaegcoldpclaaDoorG9
import Derived.Test.YtphaegcoldpclaaDoorFwFv
set_option linter.unusedSimpArgs false
set_option linter.unusedVariables false
set_option maxRecDepth 100000
namespace Go.Proofs.YtphaegcoldpclaaDoor
open Go Go.Fx Go.Proofs Go.Pl

def numR (v i : Nat) : List (List Value) := (List.range i).map fun k => [.int .u8 ((byteN v k).toNat : Int)]
theorem numR_succ (v i : Nat) : numR v (i + 1) = numR v i ++ [[.int .u8 ((byteN v i).toNat : Int)]] := by unfold numR; rw [List.range_succ, List.map_append]; rfl
theorem numR_len (v i : Nat) : (numR v i).length = i := by simp [numR]
theorem numR_bytes (v n : Nat) : numR v n = (putL v n).map fun b => [.int .u8 (b.toNat : Int)] := by unfold numR putL; rw [List.map_map]; rfl
theorem num05_spec (v n : Nat) (hv : v < 18446744073709551616) (hn : n ≤ 8) : FSpec Tryd.prog 74 [.int .u64 (v : Int), .int .i64 (n : Int)] [] Unit (fun _ => True) (fun _ => .string (numB v n)) (fun _ => []) := by
  refine spec_intro [122] _ Tryd.func74 rfl Tryd.ntmps74 (by rfl) (fun w0 R => ?_)
  refine ok_map (fun _ h => nilRow (e := 5) (n := 1) h) ?_
  repeat' (first | (refine go_Y ?_; intros) | (refine gs_Y ?_ ?_ <;> (intro hgd; try (simp only [Bool.not_true, Bool.not_false] at hgd))) | (refine gc_Y ?_ ?_ <;> intro _) | fail)
  refine ok_loop' (γ := Nat × V1s) (fun g ρ L => g.1 ≤ n ∧ Knows ρ [(0, .int .u64 ((v / 2 ^ (8 * g.1) : Nat) : Int)), (1, .int .i64 (n : Int)), (5, g.2.1), (6, .int .i64 (g.1 : Int))] ∧ L = [row 5 1 g.2.1 (numR v g.1)] ++ R) (fun g => n - g.1) (0, ⟨.slice none 0 0, rfl⟩) ⟨by simp, ⟨by show Value.int .u64 (v : Int) = .int .u64 ((v / 2 ^ (8 * 0) : Nat) : Int); rw [show v / 2 ^ (8 * 0) = v by simp], rfl, rfl, rfl, trivial⟩, rfl⟩ ?_
  rintro ⟨i, u, hu⟩ ρ L ⟨hi, hk, rfl⟩
  dsimp only at hi hk ⊢
  refine ok_regs hk ?_
  cases t1 : decide ((i : Int) < (n : Int)) with
  | false =>
    have hie : i = n := by rw [decide_eq_false_iff_not] at t1; omega
    subst hie
    repeat' (first | (refine go_Y ?_; intros) | (refine gs_Y ?_ ?_ <;> (intro hgd; try (simp only [Bool.not_true, Bool.not_false] at hgd))) | (refine gc_Y ?_ ?_ <;> intro _) | fail)
    refine ops_run (s_bytes_string (l := putL v i) rfl rfl (by rw [← numR_bytes]; exact VwIn.here Vw.row) rfl rfl ?_)
    repeat' (first | (refine go_Y ?_; intros) | (refine gs_Y ?_ ?_ <;> (intro hgd; try (simp only [Bool.not_true, Bool.not_false] at hgd))) | (refine gc_Y ?_ ?_ <;> intro _) | fail)
    (refine rt_Y (y := ()) (hrs := Tryd.results74) (hv := ?_) (hφ := ?_))
    · rfl
    · trivial
  | true =>
    have hi0 : i < n := by rw [decide_eq_true_eq] at t1; omega
    have hrl : (numR v i).length ≤ 8 := by rw [numR_len]; omega
    have hq : v / 2 ^ (8 * i) < 18446744073709551616 := Nat.lt_of_le_of_lt (Nat.div_le_self _ _) hv
    have hq2 : v / 2 ^ (8 * (i + 1)) = v / 2 ^ (8 * i) / 256 := by rw [Nat.div_div_eq_div_mul, Nat.mul_add, Nat.pow_add]
    have hb : ((byteN v i).toNat : Int) = ((v / 2 ^ (8 * i) % 256 : Nat) : Int) := by unfold byteN; simp
    generalize v / 2 ^ (8 * i) = x at hq hq2 hb
    have hr1 : (x : Int).tmod 256 = ((x % 256 : Nat) : Int) := rfl
    have hr2 : (x : Int).tdiv 256 = ((x / 256 : Nat) : Int) := rfl
    have hr3 : IntKind.u8.wrap ((x % 256 : Nat) : Int) = ((byteN v i).toNat : Int) := by rw [hb]; exact u8_eq (by omega) (by omega)
    have hr4 : IntKind.u64.wrap ((x / 256 : Nat) : Int) = ((v / 2 ^ (8 * (i + 1)) : Nat) : Int) := by rw [hq2]; exact u64_eq (by omega) (by omega)
    have hst : numR v i ++ [(Value.int .u8 ((byteN v i).toNat : Int)).cells.toList] = numR v (i + 1) := by rw [numR_succ]; rfl
    repeat' (first | (refine go_Y ?_; intros) | (refine gs_Y ?_ ?_ <;> (intro hgd; try (simp only [Bool.not_true, Bool.not_false] at hgd))) | (refine gc_Y ?_ ?_ <;> intro _) | fail)
    rename_i v1 hv1 v2 hv2
    (try rw [hr1]); (try rw [hr3]); (try rw [hr2]); (try rw [hr4]); rw [hst]
    refine cont_map (L' := [row 5 1 v2 (numR v (i + 1))] ++ R) entD ?_
    refine cont_back (i + 1, ⟨v2, hv2⟩) ⟨hi0, ⟨rfl, rfl, rfl, rfl, trivial⟩, rfl⟩ (by dsimp only; omega)
theorem row04_spec (u : Value) (A : HProp) (l : List Vl) (hA : UT A) (hu : Vw A 4 u (l.map valV)) (hw : ∀ v ∈ l, v.wf) (hl : l.length ≤ 1000000) :
    FSpec Tryd.prog 96 [u] [A] Unit (fun _ => True) (fun _ => .bool (rowB l)) (fun _ => [A]) := by
  have ll : (l.map valV).length = l.length := by simp
  have hrb : rowB l = ((decide ((1 : Int) ≤ ((l.map valV).length : Int)) && decide (((l.map valV).length : Int) ≤ 8)) && l.all checkV) := by
    unfold rowB
    rw [ll, ← Bool.and_assoc]
    congr 1
    congr 1 <;> (rw [decide_eq_decide]; omega)
  rw [hrb]
  clear hrb
  generalize hT : l.all checkV = T
  refine spec_intro [] _ Tryd.func96 rfl Tryd.ntmps96 (by rfl) (fun w0 R => ?_)
  refine ok_learn (VwIn.slice (VwIn.here hu)) ?_
  rintro ⟨pu, cu, rfl⟩
  repeat' (first | (refine go_Y ?_; intros) | (refine gs_Y ?_ ?_ <;> (intro hgd; try (simp only [Bool.not_true, Bool.not_false] at hgd))) | (refine gc_Y ?_ ?_ <;> intro _) | fail)
  refine ok_loop' (γ := Nat) (fun j ρ L => j ≤ l.length ∧ (l.take j).all checkV = true ∧ Knows ρ [(0, .slice pu (l.map valV).length cu), (3, .int .i64 (j : Int))] ∧ L = [A] ++ R) (fun j => l.length - j) 0 ⟨by omega, rfl, ⟨rfl, rfl, trivial⟩, rfl⟩ ?_
  rintro j ρ L ⟨hj, hal, hk, rfl⟩
  refine ok_regs hk ?_
  cases t1 : decide ((j : Int) < ((l.map valV).length : Int)) with
  | true =>
    have hj0 : j < l.length := by rw [decide_eq_true_eq] at t1; omega
    have hx : (l.map valV)[j]? = some (valV l[j]) := by rw [List.getElem?_map, List.getElem?_eq_getElem hj0]; rfl
    have hjn : j < (l.map valV).length := by omega
    have hm := may04_spec l[j] A hA (hw _ (List.getElem_mem hj0))
    have hst : (l.take (j + 1)).all checkV = ((l.take j).all checkV && checkV l[j]) := by rw [List.take_succ_eq_append_getElem hj0, List.all_append]; simp
    have hin : l[j] ∈ l := List.getElem_mem hj0
    refine ok_learn (VwIn.base (n := 4) (p := pu) (len := (l.map valV).length) (cap := cu) (xs := l.map valV) (VwIn.here hu) (by intro e; rw [e] at hjn; simp at hjn)) ?_
    rintro ⟨bl, ol, rfl⟩
    generalize l[j] = x at hx hm hst hin
    cases hc : checkV x with
    | true =>
      rw [hc] at hm
      obtain ⟨ck, ci, cr, cs⟩ := x
      dsimp only [valV] at hx hm
      repeat' (first | (refine go_Y ?_; intros) | (refine gs_Y ?_ ?_ <;> (intro hgd; try (simp only [Bool.not_true, Bool.not_false] at hgd))) | (refine gc_Y ?_ ?_ <;> intro _) | fail)
      refine cl_Y (hm) ?_
      intro _ _
      repeat' (first | (refine go_Y ?_; intros) | (refine gs_Y ?_ ?_ <;> (intro hgd; try (simp only [Bool.not_true, Bool.not_false] at hgd))) | (refine gc_Y ?_ ?_ <;> intro _) | fail)
      refine cont_back (j + 1) ⟨hj0, by rw [hst, hal, hc]; rfl, ⟨rfl, rfl, trivial⟩, rfl⟩ (by omega)
    | false =>
      rw [hc] at hm
      obtain rfl : T = false := by rw [← hT, List.all_eq_false]; exact ⟨x, hin, by simp [hc]⟩
      rw [Bool.and_false]
      obtain ⟨ck, ci, cr, cs⟩ := x
      dsimp only [valV] at hx hm
      repeat' (first | (refine go_Y ?_; intros) | (refine gs_Y ?_ ?_ <;> (intro hgd; try (simp only [Bool.not_true, Bool.not_false] at hgd))) | (refine gc_Y ?_ ?_ <;> intro _) | fail)
      refine cl_Y (hm) ?_
      intro _ _
      repeat' (first | (refine go_Y ?_; intros) | (refine gs_Y ?_ ?_ <;> (intro hgd; try (simp only [Bool.not_true, Bool.not_false] at hgd))) | (refine gc_Y ?_ ?_ <;> intro _) | fail)
      (refine rt_Y (y := ()) (hrs := Tryd.results96) (hv := ?_) (hφ := ?_))
      · rfl
      · trivial
  | false =>
    have hje : j = l.length := by rw [decide_eq_false_iff_not] at t1; omega
    subst hje
    rw [List.take_length, hT] at hal
    subst hal
    rw [Bool.and_true]
    cases c1 : decide ((1 : Int) ≤ ((l.map valV).length : Int)) with
    | false =>
      rw [Bool.false_and]
      repeat' (first | (refine go_Y ?_; intros) | (refine gs_Y ?_ ?_ <;> (intro hgd; try (simp only [Bool.not_true, Bool.not_false] at hgd))) | (refine gc_Y ?_ ?_ <;> intro _) | fail)
      (refine rt_Y (y := ()) (hrs := Tryd.results96) (hv := ?_) (hφ := ?_))
      · rfl
      · trivial
    | true =>
      rw [Bool.true_and]
      repeat' (first | (refine go_Y ?_; intros) | (refine gs_Y ?_ ?_ <;> (intro hgd; try (simp only [Bool.not_true, Bool.not_false] at hgd))) | (refine gc_Y ?_ ?_ <;> intro _) | fail)
      (refine rt_Y (y := ()) (hrs := Tryd.results96) (hv := ?_) (hφ := ?_))
      · rfl
      · trivial
end Go.Proofs.YtphaegcoldpclaaDoor
set_option linter.unusedSimpArgs false
set_option linter.unusedVariables false
set_option maxRecDepth 100000
namespace Go.Pl
open Go Go.Fx
def rowM (l : List Vl) (must : Bool) : Bool := bif must then rowB l else decide (l.length ≤ 0)
theorem mayE_ref (total nth k t : Int) (bef aft : List Vl) : mayE total nth ⟨k, t, bef, aft⟩ = (decide (1 ≤ k) && (decide (k ≤ 4) && (decide (0 ≤ t) && (decide (t < 12) && (decide (0 ≤ total) && (decide (total < 200) && (decide (0 ≤ nth) && (decide (nth ≤ total) && (rowM bef (decide (k = 2) || decide (k = 3)) && rowM aft (!decide (k = 3))))))))))) := by
  have ng : ∀ a b : Int, decide (a < b) = !decide (b ≤ a) := fun a b => by rw [← decide_not, decide_eq_decide]; omega
  have ng2 : ∀ a b : Int, decide (b ≤ a) = !decide (a < b) := fun a b => by rw [← decide_not, decide_eq_decide]; omega
  have h1 : mayE total nth ⟨k, t, bef, aft⟩ = ((decide (1 ≤ k) && (decide (k ≤ 4) && (decide (0 ≤ t) && (decide (t < 12) && (decide (0 ≤ total) && (decide (total < 200) && (decide (0 ≤ nth) && decide (nth ≤ total)))))))) && ((hasE ⟨k, t, bef, aft⟩).all rowB && (notE ⟨k, t, bef, aft⟩).all fun l => decide (l.length ≤ 0))) := by
    unfold mayE
    congr 1
    simp only [Bool.not_or, ng k 1, ng 4 k, ng t 0, ng2 t 12, ng total 0, ng2 total 200, ng nth 0, ng total nth, Bool.not_not]
  rw [h1]
  by_cases hk : 1 ≤ k ∧ k ≤ 4
  · have h3 : k = 1 ∨ k = 2 ∨ k = 3 ∨ k = 4 := by omega
    have e : ((hasE ⟨k, t, bef, aft⟩).all rowB && (notE ⟨k, t, bef, aft⟩).all fun l => decide (l.length ≤ 0)) = (rowM bef (decide (k = 2) || decide (k = 3)) && rowM aft (!decide (k = 3))) := by
      rcases h3 with rfl | rfl | rfl | rfl
      · simp [hasE, notE, rowM, Bool.and_comm]
      · simp [hasE, notE, rowM]
      · simp [hasE, notE, rowM]
      · simp [hasE, notE, rowM, Bool.and_comm]
    rw [e]
    simp only [Bool.and_assoc]
  · have : (decide (1 ≤ k) && decide (k ≤ 4)) = false := by
      rw [Bool.and_eq_false_iff, decide_eq_false_iff_not, decide_eq_false_iff_not]; omega
    rw [← Bool.and_assoc (decide (1 ≤ k)), this]
    rw [← Bool.and_assoc (decide (1 ≤ k)), this]
    rfl
end Go.Pl
namespace Go.Proofs.YtphaegcoldpclaaDoor
open Go Go.Fx Go.Proofs Go.Pl

theorem has16_spec (k : Int) : FSpec Tryd.prog 72 [.int .u8 k] [] Unit (fun _ => True) (fun _ => .tuple #[.bool (decide (k = 2) || decide (k = 3)), .bool (!decide (k = 3))]) (fun _ => []) := by
  cases h2 : decide (k = 2) with
  | true =>
    rw [Bool.true_or]
    refine spec_intro [] _ Tryd.func72 rfl Tryd.ntmps72 (by rfl) (fun w0 R => ?_)
    repeat' (first | (refine go_Y ?_; intros) | (refine gs_Y ?_ ?_ <;> (intro hgd; try (simp only [Bool.not_true, Bool.not_false] at hgd))) | (refine gc_Y ?_ ?_ <;> intro _) | fail)
    (refine rt_Y (y := ()) (hrs := Tryd.results72) (hv := ?_) (hφ := ?_))
    · rfl
    · trivial
  | false =>
    rw [Bool.false_or]
    refine spec_intro [] _ Tryd.func72 rfl Tryd.ntmps72 (by rfl) (fun w0 R => ?_)
    repeat' (first | (refine go_Y ?_; intros) | (refine gs_Y ?_ ?_ <;> (intro hgd; try (simp only [Bool.not_true, Bool.not_false] at hgd))) | (refine gc_Y ?_ ?_ <;> intro _) | fail)
    (refine rt_Y (y := ()) (hrs := Tryd.results72) (hv := ?_) (hφ := ?_))
    · rfl
    · trivial
theorem row16_spec (u : Value) (A : HProp) (l : List Vl) (m : Bool) (hA : UT A) (hu : Vw A 4 u (l.map valV)) (hw : ∀ v ∈ l, v.wf) (hl : l.length ≤ 1000000) :
    FSpec Tryd.prog 73 [u, .bool m] [A] Unit (fun _ => True) (fun _ => .bool (rowM l m)) (fun _ => [A]) := by
  have ll : (l.map valV).length = l.length := by simp
  have hr := row04_spec u A l hA hu hw hl
  cases m with
  | true =>
    refine spec_intro [] _ Tryd.func73 rfl Tryd.ntmps73 (by rfl) (fun w0 R => ?_)
    repeat' (first | (refine go_Y ?_; intros) | (refine gs_Y ?_ ?_ <;> (intro hgd; try (simp only [Bool.not_true, Bool.not_false] at hgd))) | (refine gc_Y ?_ ?_ <;> intro _) | fail)
    refine cl_Y (hr) ?_
    intro _ _
    repeat' (first | (refine go_Y ?_; intros) | (refine gs_Y ?_ ?_ <;> (intro hgd; try (simp only [Bool.not_true, Bool.not_false] at hgd))) | (refine gc_Y ?_ ?_ <;> intro _) | fail)
    (refine rt_Y (y := ()) (hrs := Tryd.results73) (hv := ?_) (hφ := ?_))
    · rfl
    · trivial
  | false =>
    rw [show rowM l false = decide (((l.map valV).length : Int) = 0) from by unfold rowM; rw [cond_false, ll, decide_eq_decide]; omega]
    refine spec_intro [] _ Tryd.func73 rfl Tryd.ntmps73 (by rfl) (fun w0 R => ?_)
    refine ok_learn (VwIn.slice (VwIn.here hu)) ?_
    rintro ⟨pu, cu, rfl⟩
    repeat' (first | (refine go_Y ?_; intros) | (refine gs_Y ?_ ?_ <;> (intro hgd; try (simp only [Bool.not_true, Bool.not_false] at hgd))) | (refine gc_Y ?_ ?_ <;> intro _) | fail)
    (refine rt_Y (y := ()) (hrs := Tryd.results73) (hv := ?_) (hφ := ?_))
    · rfl
    · trivial
set_option maxHeartbeats 8000000 in
theorem may16_spec (tx total nth k t : Int) (u w : Value) (bef aft : List Vl) (A : HProp) (hA : UT A) (h1 : Vw A 4 u (bef.map valV)) (h2 : Vw A 4 w (aft.map valV)) (hb : ∀ v ∈ bef, v.wf) (ha : ∀ v ∈ aft, v.wf) (lb : bef.length ≤ 1000000) (la : aft.length ≤ 1000000) :
    FSpec Tryd.prog 44 [.agg #[.int .u64 tx, .int .i64 total, .int .i64 nth, .int .u8 k, .int .i64 t, u, w]] [A] Unit (fun _ => True) (fun _ => .bool (mayE total nth ⟨k, t, bef, aft⟩)) (fun _ => [A]) := by
  have hs := has16_spec k
  rw [mayE_ref]
  refine fspec_lrn (fun R hh s => (VwIn.slice (VwIn.here h1)) hh s) ?_
  rintro ⟨pb, cb, rfl⟩
  refine fspec_lrn (fun R hh s => (VwIn.slice (VwIn.here h2)) hh s) ?_
  rintro ⟨pa, ca, rfl⟩
  have hr1 := row16_spec (.slice pb (bef.map valV).length cb) A bef (decide (k = 2) || decide (k = 3)) hA h1 hb lb
  have hr2 := row16_spec (.slice pa (aft.map valV).length ca) A aft (!decide (k = 3)) hA h2 ha la
  generalize rowM bef (decide (k = 2) || decide (k = 3)) = m1 at hr1
  generalize rowM aft (!decide (k = 3)) = m2 at hr2
  generalize (decide (k = 2) || decide (k = 3)) = g1 at hs hr1
  generalize (!decide (k = 3)) = g2 at hs hr2
  cases q1 : decide (1 ≤ k) with
  | false =>
    simp only [Bool.false_and]
    refine spec_intro [] _ Tryd.func44 rfl Tryd.ntmps44 (by rfl) (fun w0 R => ?_)
    repeat' (first | (refine go_Y ?_; intros) | (refine gs_Y ?_ ?_ <;> (intro hgd; try (simp only [Bool.not_true, Bool.not_false] at hgd))) | (refine gc_Y ?_ ?_ <;> intro _) | fail)
    refine cl_Y (hs) ?_
    intro _ _
    repeat' (first | (refine go_Y ?_; intros) | (refine gs_Y ?_ ?_ <;> (intro hgd; try (simp only [Bool.not_true, Bool.not_false] at hgd))) | (refine gc_Y ?_ ?_ <;> intro _) | fail)
    (refine rt_Y (y := ()) (hrs := Tryd.results44) (hv := ?_) (hφ := ?_))
    · rfl
    · trivial
  | true =>
  rw [Bool.true_and]
  cases q2 : decide (k ≤ 4) with
  | false =>
    simp only [Bool.false_and]
    refine spec_intro [] _ Tryd.func44 rfl Tryd.ntmps44 (by rfl) (fun w0 R => ?_)
    repeat' (first | (refine go_Y ?_; intros) | (refine gs_Y ?_ ?_ <;> (intro hgd; try (simp only [Bool.not_true, Bool.not_false] at hgd))) | (refine gc_Y ?_ ?_ <;> intro _) | fail)
    refine cl_Y (hs) ?_
    intro _ _
    repeat' (first | (refine go_Y ?_; intros) | (refine gs_Y ?_ ?_ <;> (intro hgd; try (simp only [Bool.not_true, Bool.not_false] at hgd))) | (refine gc_Y ?_ ?_ <;> intro _) | fail)
    (refine rt_Y (y := ()) (hrs := Tryd.results44) (hv := ?_) (hφ := ?_))
    · rfl
    · trivial
  | true =>
  rw [Bool.true_and]
  cases q3 : decide (0 ≤ t) with
  | false =>
    simp only [Bool.false_and]
    refine spec_intro [] _ Tryd.func44 rfl Tryd.ntmps44 (by rfl) (fun w0 R => ?_)
    repeat' (first | (refine go_Y ?_; intros) | (refine gs_Y ?_ ?_ <;> (intro hgd; try (simp only [Bool.not_true, Bool.not_false] at hgd))) | (refine gc_Y ?_ ?_ <;> intro _) | fail)
    refine cl_Y (hs) ?_
    intro _ _
    repeat' (first | (refine go_Y ?_; intros) | (refine gs_Y ?_ ?_ <;> (intro hgd; try (simp only [Bool.not_true, Bool.not_false] at hgd))) | (refine gc_Y ?_ ?_ <;> intro _) | fail)
    (refine rt_Y (y := ()) (hrs := Tryd.results44) (hv := ?_) (hφ := ?_))
    · rfl
    · trivial
  | true =>
  rw [Bool.true_and]
  cases q4 : decide (t < 12) with
  | false =>
    simp only [Bool.false_and]
    refine spec_intro [] _ Tryd.func44 rfl Tryd.ntmps44 (by rfl) (fun w0 R => ?_)
    repeat' (first | (refine go_Y ?_; intros) | (refine gs_Y ?_ ?_ <;> (intro hgd; try (simp only [Bool.not_true, Bool.not_false] at hgd))) | (refine gc_Y ?_ ?_ <;> intro _) | fail)
    refine cl_Y (hs) ?_
    intro _ _
    repeat' (first | (refine go_Y ?_; intros) | (refine gs_Y ?_ ?_ <;> (intro hgd; try (simp only [Bool.not_true, Bool.not_false] at hgd))) | (refine gc_Y ?_ ?_ <;> intro _) | fail)
    (refine rt_Y (y := ()) (hrs := Tryd.results44) (hv := ?_) (hφ := ?_))
    · rfl
    · trivial
  | true =>
  rw [Bool.true_and]
  cases q5 : decide (0 ≤ total) with
  | false =>
    simp only [Bool.false_and]
    refine spec_intro [] _ Tryd.func44 rfl Tryd.ntmps44 (by rfl) (fun w0 R => ?_)
    repeat' (first | (refine go_Y ?_; intros) | (refine gs_Y ?_ ?_ <;> (intro hgd; try (simp only [Bool.not_true, Bool.not_false] at hgd))) | (refine gc_Y ?_ ?_ <;> intro _) | fail)
    refine cl_Y (hs) ?_
    intro _ _
    repeat' (first | (refine go_Y ?_; intros) | (refine gs_Y ?_ ?_ <;> (intro hgd; try (simp only [Bool.not_true, Bool.not_false] at hgd))) | (refine gc_Y ?_ ?_ <;> intro _) | fail)
    (refine rt_Y (y := ()) (hrs := Tryd.results44) (hv := ?_) (hφ := ?_))
    · rfl
    · trivial
  | true =>
  rw [Bool.true_and]
  cases q6 : decide (total < 200) with
  | false =>
    simp only [Bool.false_and]
    refine spec_intro [] _ Tryd.func44 rfl Tryd.ntmps44 (by rfl) (fun w0 R => ?_)
    repeat' (first | (refine go_Y ?_; intros) | (refine gs_Y ?_ ?_ <;> (intro hgd; try (simp only [Bool.not_true, Bool.not_false] at hgd))) | (refine gc_Y ?_ ?_ <;> intro _) | fail)
    refine cl_Y (hs) ?_
    intro _ _
    repeat' (first | (refine go_Y ?_; intros) | (refine gs_Y ?_ ?_ <;> (intro hgd; try (simp only [Bool.not_true, Bool.not_false] at hgd))) | (refine gc_Y ?_ ?_ <;> intro _) | fail)
    (refine rt_Y (y := ()) (hrs := Tryd.results44) (hv := ?_) (hφ := ?_))
    · rfl
    · trivial
  | true =>
  rw [Bool.true_and]
  cases q7 : decide (0 ≤ nth) with
  | false =>
    simp only [Bool.false_and]
    refine spec_intro [] _ Tryd.func44 rfl Tryd.ntmps44 (by rfl) (fun w0 R => ?_)
    repeat' (first | (refine go_Y ?_; intros) | (refine gs_Y ?_ ?_ <;> (intro hgd; try (simp only [Bool.not_true, Bool.not_false] at hgd))) | (refine gc_Y ?_ ?_ <;> intro _) | fail)
    refine cl_Y (hs) ?_
    intro _ _
    repeat' (first | (refine go_Y ?_; intros) | (refine gs_Y ?_ ?_ <;> (intro hgd; try (simp only [Bool.not_true, Bool.not_false] at hgd))) | (refine gc_Y ?_ ?_ <;> intro _) | fail)
    (refine rt_Y (y := ()) (hrs := Tryd.results44) (hv := ?_) (hφ := ?_))
    · rfl
    · trivial
  | true =>
  rw [Bool.true_and]
  cases q8 : decide (nth ≤ total) with
  | false =>
    simp only [Bool.false_and]
    refine spec_intro [] _ Tryd.func44 rfl Tryd.ntmps44 (by rfl) (fun w0 R => ?_)
    repeat' (first | (refine go_Y ?_; intros) | (refine gs_Y ?_ ?_ <;> (intro hgd; try (simp only [Bool.not_true, Bool.not_false] at hgd))) | (refine gc_Y ?_ ?_ <;> intro _) | fail)
    refine cl_Y (hs) ?_
    intro _ _
    repeat' (first | (refine go_Y ?_; intros) | (refine gs_Y ?_ ?_ <;> (intro hgd; try (simp only [Bool.not_true, Bool.not_false] at hgd))) | (refine gc_Y ?_ ?_ <;> intro _) | fail)
    (refine rt_Y (y := ()) (hrs := Tryd.results44) (hv := ?_) (hφ := ?_))
    · rfl
    · trivial
  | true =>
  rw [Bool.true_and]
  cases m1 with
  | false =>
    rw [Bool.false_and]
    refine spec_intro [] _ Tryd.func44 rfl Tryd.ntmps44 (by rfl) (fun w0 R => ?_)
    repeat' (first | (refine go_Y ?_; intros) | (refine gs_Y ?_ ?_ <;> (intro hgd; try (simp only [Bool.not_true, Bool.not_false] at hgd))) | (refine gc_Y ?_ ?_ <;> intro _) | fail)
    refine cl_Y (hs) ?_
    intro _ _
    repeat' (first | (refine go_Y ?_; intros) | (refine gs_Y ?_ ?_ <;> (intro hgd; try (simp only [Bool.not_true, Bool.not_false] at hgd))) | (refine gc_Y ?_ ?_ <;> intro _) | fail)
    refine cl_Y (hr1) ?_
    intro _ _
    repeat' (first | (refine go_Y ?_; intros) | (refine gs_Y ?_ ?_ <;> (intro hgd; try (simp only [Bool.not_true, Bool.not_false] at hgd))) | (refine gc_Y ?_ ?_ <;> intro _) | fail)
    (refine rt_Y (y := ()) (hrs := Tryd.results44) (hv := ?_) (hφ := ?_))
    · rfl
    · trivial
  | true =>
  rw [Bool.true_and]
  refine spec_intro [] _ Tryd.func44 rfl Tryd.ntmps44 (by rfl) (fun w0 R => ?_)
  repeat' (first | (refine go_Y ?_; intros) | (refine gs_Y ?_ ?_ <;> (intro hgd; try (simp only [Bool.not_true, Bool.not_false] at hgd))) | (refine gc_Y ?_ ?_ <;> intro _) | fail)
  refine cl_Y (hs) ?_
  intro _ _
  repeat' (first | (refine go_Y ?_; intros) | (refine gs_Y ?_ ?_ <;> (intro hgd; try (simp only [Bool.not_true, Bool.not_false] at hgd))) | (refine gc_Y ?_ ?_ <;> intro _) | fail)
  refine cl_Y (hr1) ?_
  intro _ _
  repeat' (first | (refine go_Y ?_; intros) | (refine gs_Y ?_ ?_ <;> (intro hgd; try (simp only [Bool.not_true, Bool.not_false] at hgd))) | (refine gc_Y ?_ ?_ <;> intro _) | fail)
  refine cl_Y (hr2) ?_
  intro _ _
  repeat' (first | (refine go_Y ?_; intros) | (refine gs_Y ?_ ?_ <;> (intro hgd; try (simp only [Bool.not_true, Bool.not_false] at hgd))) | (refine gc_Y ?_ ?_ <;> intro _) | fail)
  (refine rt_Y (y := ()) (hrs := Tryd.results44) (hv := ?_) (hφ := ?_))
  · rfl
  · trivial
end Go.Proofs.YtphaegcoldpclaaDoor
set_option linter.unusedSimpArgs false
set_option linter.unusedVariables false
set_option maxRecDepth 100000
namespace Go.Proofs.YtphaegcoldpclaaDoor
open Go Go.Fx Go.Proofs Go.Pl

theorem put05_spec (v : Vl) (hw : v.wf) : FSpec Tryd.prog 97 [.agg (valV v).toArray] [] Unit (fun _ => True) (fun _ => .string (putVB v)) (fun _ => []) := by
  obtain ⟨k, n, r, s⟩ := v
  obtain ⟨h0, h1, i0, i1, r0, r1, ht⟩ := hw
  dsimp only [valV] at *
  have z0 := oneB_size k
  by_cases e1 : k = 1
  · subst e1
    rw [show putVB ⟨1, n, r, s⟩ = oneB 1 ++ oneB n from rfl]
    have z1 := oneB_size 1
    have z2 := oneB_size n
    refine spec_intro [122] _ Tryd.func97 rfl Tryd.ntmps97 (by rfl) (fun w0 R => ?_)
    repeat' (first | (refine go_Y ?_; intros) | (refine gs_Y ?_ ?_ <;> (intro hgd; try (simp only [Bool.not_true, Bool.not_false] at hgd))) | (refine gc_Y ?_ ?_ <;> intro _) | fail)
    refine ops_run (s_byte1 rfl rfl (VwIn.here Vw.row) h0 h1 rfl rfl ?_)
    repeat' (first | (refine go_Y ?_; intros) | (refine gs_Y ?_ ?_ <;> (intro hgd; try (simp only [Bool.not_true, Bool.not_false] at hgd))) | (refine gc_Y ?_ ?_ <;> intro _) | fail)
    refine ops_run (s_byte1 rfl rfl (VwIn.here Vw.row) (u8_lo n).1 (u8_lo n).2 rfl rfl ?_)
    rw [oneB_wrap]
    repeat' (first | (refine go_Y ?_; intros) | (refine gs_Y ?_ ?_ <;> (intro hgd; try (simp only [Bool.not_true, Bool.not_false] at hgd))) | (refine gc_Y ?_ ?_ <;> intro _) | fail)
    (refine rt_Y (y := ()) (hrs := Tryd.results97) (hv := ?_) (hφ := ?_))
    · rfl
    · trivial
  by_cases e2 : k = 2
  · subst e2
    have hn := num05_spec (u64N n) 8 (u64N_lt n) (by omega)
    rw [u64N_eq] at hn
    rw [show putVB ⟨2, n, r, s⟩ = oneB 2 ++ numB (u64N n) 8 from rfl]
    have z1 := oneB_size 2
    have z2 := numB_size (u64N n) 8
    refine spec_intro [122] _ Tryd.func97 rfl Tryd.ntmps97 (by rfl) (fun w0 R => ?_)
    repeat' (first | (refine go_Y ?_; intros) | (refine gs_Y ?_ ?_ <;> (intro hgd; try (simp only [Bool.not_true, Bool.not_false] at hgd))) | (refine gc_Y ?_ ?_ <;> intro _) | fail)
    refine ops_run (s_byte1 rfl rfl (VwIn.here Vw.row) h0 h1 rfl rfl ?_)
    repeat' (first | (refine go_Y ?_; intros) | (refine gs_Y ?_ ?_ <;> (intro hgd; try (simp only [Bool.not_true, Bool.not_false] at hgd))) | (refine gc_Y ?_ ?_ <;> intro _) | fail)
    refine cl_Y (hn) ?_
    intro _ _
    repeat' (first | (refine go_Y ?_; intros) | (refine gs_Y ?_ ?_ <;> (intro hgd; try (simp only [Bool.not_true, Bool.not_false] at hgd))) | (refine gc_Y ?_ ?_ <;> intro _) | fail)
    (refine rt_Y (y := ()) (hrs := Tryd.results97) (hv := ?_) (hφ := ?_))
    · rfl
    · trivial
  by_cases e3 : k = 3
  · subst e3
    have hn := num05_spec (u64N r) 8 (u64N_lt r) (by omega)
    rw [u64N_eq, u64_eq r0 r1] at hn
    rw [show putVB ⟨3, n, r, s⟩ = oneB 3 ++ numB (u64N r) 8 from rfl]
    have z1 := oneB_size 3
    have z2 := numB_size (u64N r) 8
    refine spec_intro [122] _ Tryd.func97 rfl Tryd.ntmps97 (by rfl) (fun w0 R => ?_)
    repeat' (first | (refine go_Y ?_; intros) | (refine gs_Y ?_ ?_ <;> (intro hgd; try (simp only [Bool.not_true, Bool.not_false] at hgd))) | (refine gc_Y ?_ ?_ <;> intro _) | fail)
    refine ops_run (s_byte1 rfl rfl (VwIn.here Vw.row) h0 h1 rfl rfl ?_)
    repeat' (first | (refine go_Y ?_; intros) | (refine gs_Y ?_ ?_ <;> (intro hgd; try (simp only [Bool.not_true, Bool.not_false] at hgd))) | (refine gc_Y ?_ ?_ <;> intro _) | fail)
    refine cl_Y (hn) ?_
    intro _ _
    repeat' (first | (refine go_Y ?_; intros) | (refine gs_Y ?_ ?_ <;> (intro hgd; try (simp only [Bool.not_true, Bool.not_false] at hgd))) | (refine gc_Y ?_ ?_ <;> intro _) | fail)
    (refine rt_Y (y := ()) (hrs := Tryd.results97) (hv := ?_) (hφ := ?_))
    · rfl
    · trivial
  by_cases e4 : k = 4 ∨ k = 5
  · have hp : putVB ⟨k, n, r, s⟩ = oneB k ++ oneB s.size ++ s := by
      rcases e4 with rfl | rfl
      · exact (ByteArray.append_assoc (a := oneB 4) (b := oneB s.size) (c := s)).symm
      · exact (ByteArray.append_assoc (a := oneB 5) (b := oneB s.size) (c := s)).symm
    rw [hp]
    have z2 := oneB_size s.size
    have z3 : (oneB k ++ oneB s.size).size = 2 := by rw [ByteArray.size_append, z0, z2]
    rcases e4 with rfl | rfl
    all_goals
      refine spec_intro [122] _ Tryd.func97 rfl Tryd.ntmps97 (by rfl) (fun w0 R => ?_)
      repeat' (first | (refine go_Y ?_; intros) | (refine gs_Y ?_ ?_ <;> (intro hgd; try (simp only [Bool.not_true, Bool.not_false] at hgd))) | (refine gc_Y ?_ ?_ <;> intro _) | fail)
      refine ops_run (s_byte1 rfl rfl (VwIn.here Vw.row) h0 h1 rfl rfl ?_)
      repeat' (first | (refine go_Y ?_; intros) | (refine gs_Y ?_ ?_ <;> (intro hgd; try (simp only [Bool.not_true, Bool.not_false] at hgd))) | (refine gc_Y ?_ ?_ <;> intro _) | fail)
      refine ops_run (s_byte1 rfl rfl (VwIn.here Vw.row) (u8_lo s.size).1 (u8_lo s.size).2 rfl rfl ?_)
      rw [oneB_wrap]
      repeat' (first | (refine go_Y ?_; intros) | (refine gs_Y ?_ ?_ <;> (intro hgd; try (simp only [Bool.not_true, Bool.not_false] at hgd))) | (refine gc_Y ?_ ?_ <;> intro _) | fail)
      (refine rt_Y (y := ()) (hrs := Tryd.results97) (hv := ?_) (hφ := ?_))
      · rfl
      · trivial
  · have hp : putVB ⟨k, n, r, s⟩ = oneB k := by
      unfold putVB
      rw [if_neg e1, if_neg e2, if_neg e3, if_neg e4]
    rw [hp]
    have d1 : decide (k = 1) = false := decide_eq_false e1
    have d2 : decide (k = 2) = false := decide_eq_false e2
    have d3 : decide (k = 3) = false := decide_eq_false e3
    have d4 : decide (k = 4) = false := decide_eq_false fun e => e4 (.inl e)
    have d5 : decide (k = 5) = false := decide_eq_false fun e => e4 (.inr e)
    refine spec_intro [122] _ Tryd.func97 rfl Tryd.ntmps97 (by rfl) (fun w0 R => ?_)
    repeat' (first | (refine go_Y ?_; intros) | (refine gs_Y ?_ ?_ <;> (intro hgd; try (simp only [Bool.not_true, Bool.not_false] at hgd))) | (refine gc_Y ?_ ?_ <;> intro _) | fail)
    refine ops_run (s_byte1 rfl rfl (VwIn.here Vw.row) h0 h1 rfl rfl ?_)
    repeat' (first | (refine go_Y ?_; intros) | (refine gs_Y ?_ ?_ <;> (intro hgd; try (simp only [Bool.not_true, Bool.not_false] at hgd))) | (refine gc_Y ?_ ?_ <;> intro _) | fail)
    (refine rt_Y (y := ()) (hrs := Tryd.results97) (hv := ?_) (hφ := ?_))
    · rfl
    · trivial
theorem putRow05_spec (u : Value) (A : HProp) (l : List Vl) (hu : Vw A 4 u (l.map valV)) (hw : ∀ v ∈ l, v.wf) (hr : rowB l = true) :
    FSpec Tryd.prog 75 [u] [A] Unit (fun _ => True) (fun _ => .string (putRB l)) (fun _ => [A]) := by
  obtain ⟨hl1, hl8, hall⟩ := rowB_all hr
  have ll : (l.map valV).length = l.length := by simp
  refine spec_intro [122] _ Tryd.func75 rfl Tryd.ntmps75 (by rfl) (fun w0 R => ?_)
  refine ok_learn (VwIn.slice (VwIn.here hu)) ?_
  rintro ⟨pu, cu, rfl⟩
  repeat' (first | (refine go_Y ?_; intros) | (refine gs_Y ?_ ?_ <;> (intro hgd; try (simp only [Bool.not_true, Bool.not_false] at hgd))) | (refine gc_Y ?_ ?_ <;> intro _) | fail)
  refine ops_run (s_byte1 rfl rfl (VwIn.here Vw.row) (u8_lo _).1 (u8_lo _).2 rfl rfl ?_)
  rw [oneB_wrap, show oneB ((l.map valV).length : Int) = oneB (l.length : Int) from by rw [ll]]
  repeat' (first | (refine go_Y ?_; intros) | (refine gs_Y ?_ ?_ <;> (intro hgd; try (simp only [Bool.not_true, Bool.not_false] at hgd))) | (refine gc_Y ?_ ?_ <;> intro _) | fail)
  refine ok_map (L' := [A] ++ R) entD ?_
  refine ok_loop' (γ := Nat) (fun j ρ L => j ≤ l.length ∧ Knows ρ [(0, .slice pu (l.map valV).length cu), (3, .string (putLB (l.take j) (oneB l.length))), (4, .int .i64 (j : Int))] ∧ L = [A] ++ R) (fun j => l.length - j) 0 ⟨by omega, ⟨rfl, rfl, rfl, trivial⟩, rfl⟩ ?_
  rintro j ρ L ⟨hj, hk, rfl⟩
  refine ok_regs hk ?_
  cases t1 : decide ((j : Int) < ((l.map valV).length : Int)) with
  | false =>
    have hje : j = l.length := by rw [decide_eq_false_iff_not] at t1; omega
    subst hje
    rw [List.take_length]
    repeat' (first | (refine go_Y ?_; intros) | (refine gs_Y ?_ ?_ <;> (intro hgd; try (simp only [Bool.not_true, Bool.not_false] at hgd))) | (refine gc_Y ?_ ?_ <;> intro _) | fail)
    (refine rt_Y (y := ()) (hrs := Tryd.results75) (hv := ?_) (hφ := ?_))
    · rfl
    · trivial
  | true =>
    have hj0 : j < l.length := by rw [decide_eq_true_eq] at t1; omega
    have hx : (l.map valV)[j]? = some (valV l[j]) := by rw [List.getElem?_map, List.getElem?_eq_getElem hj0]; rfl
    have hjn : j < (l.map valV).length := by omega
    have hp := put05_spec l[j] (hw _ (List.getElem_mem hj0))
    have hcv := hall _ (List.getElem_mem hj0)
    have hstep := putLB_step hj0 (oneB l.length)
    have hz1 := putLB_size (l := l.take j) (fun v hv => hall v (List.mem_of_mem_take hv)) (oneB l.length)
    have hz2 := putVB_size hcv
    have hz3 := oneB_size (l.length : Int)
    have hz4 : (l.take j).length ≤ 8 := by rw [List.length_take]; omega
    refine ok_learn (VwIn.base (n := 4) (p := pu) (len := (l.map valV).length) (cap := cu) (xs := l.map valV) (VwIn.here hu) (by intro e; rw [e] at hjn; simp at hjn)) ?_
    rintro ⟨bu, ou, rfl⟩
    generalize l[j] = c at hx hp hstep hz2
    obtain ⟨ck, ci, cr, cs⟩ := c
    dsimp only [valV] at hx hp
    repeat' (first | (refine go_Y ?_; intros) | (refine gs_Y ?_ ?_ <;> (intro hgd; try (simp only [Bool.not_true, Bool.not_false] at hgd))) | (refine gc_Y ?_ ?_ <;> intro _) | fail)
    refine cl_Y (hp) ?_
    intro _ _
    repeat' (first | (refine go_Y ?_; intros) | (refine gs_Y ?_ ?_ <;> (intro hgd; try (simp only [Bool.not_true, Bool.not_false] at hgd))) | (refine gc_Y ?_ ?_ <;> intro _) | fail)
    rw [← hstep]
    refine cont_map (L' := [A] ++ R) entD ?_
    refine cont_back (j + 1) ⟨hj0, ⟨rfl, rfl, rfl, trivial⟩, rfl⟩ (by omega)
end Go.Proofs.YtphaegcoldpclaaDoor
set_option linter.unusedSimpArgs false
set_option linter.unusedVariables false
set_option maxRecDepth 100000
namespace Go.Proofs.YtphaegcoldpclaaDoor
open Go Go.Fx Go.Proofs Go.Pl

set_option maxHeartbeats 16000000 in
theorem putMark16_spec (k tx : Int) (cs qs : List Int) (uc uq : Value) (A B : HProp) (hA : Vw A 1 uc (cs.map dpV)) (hB : Vw B 1 uq (qs.map sqV)) (hm : mayMk k cs qs = true) (t0 : 0 ≤ tx) (t1 : tx ≤ 18446744073709551615) (hq : ∀ x ∈ qs, 0 ≤ x ∧ x ≤ 18446744073709551615) :
    FSpec Tryd.prog 45 [.agg #[.int .u8 k, .int .u64 tx, uc, uq]] [A, B] Unit (fun _ => True) (fun _ => .string (putMB k tx cs qs)) (fun _ => [A, B]) := by
  obtain ⟨hk, q1, q2, c1, hcs⟩ := mayMk_all hm
  have e0 : (!decide ((0 : Int) = (0 : Int))) = false := by decide
  have lc : (cs.map dpV).length = cs.length := by simp
  have lq : (qs.map sqV).length = qs.length := by simp
  refine fspec_lrn (fun R hh s => (VwIn.slice (VwIn.here hA)) hh s) ?_
  rintro ⟨pc, cc, rfl⟩
  refine fspec_lrn (fun R hh s => (VwIn.slice (VwIn.there (VwIn.here hB))) hh s) ?_
  rintro ⟨pq, cq, rfl⟩
  clear hm
  have k0' : 0 ≤ k := by omega
  have k1' : k ≤ 255 := by omega
  have hp1 := num05_spec (u64N tx) 8 (u64N_lt tx) (by omega)
  rw [u64N_eq, u64_eq t0 t1] at hp1
  have y1 := oneB_size k
  have y2 := numB_size (u64N tx) 8
  have y3 : (oneB k ++ numB (u64N tx) 8).size = 9 := by rw [ByteArray.size_append, y1, y2]
  have y4 := oneB_size (IntKind.u8.wrap ((qs.map sqV).length : Int))
  have hpm : putMB k tx cs qs = numsB cs 2 (numsB qs 8 (oneB k ++ numB (u64N tx) 8 ++ oneB (IntKind.u8.wrap ((qs.map sqV).length : Int)))) := by rw [oneB_wrap, lq]; rfl
  rw [hpm]
  clear hpm
  refine spec_intro [122] _ Tryd.func45 rfl Tryd.ntmps45 (by rfl) (fun w0 R => ?_)
  repeat' (first | (refine go_Y ?_; intros) | (refine gs_Y ?_ ?_ <;> (intro hgd; try (simp only [Bool.not_true, Bool.not_false] at hgd))) | (refine gc_Y ?_ ?_ <;> intro _) | fail)
  rename_i b1
  refine ok_meetE (γ := Unit) (fun _ ρ L => Knows ρ [(1, .pointer (some ⟨b1, 0, none⟩)), (3, .string (oneB k ++ numB (u64N tx) 8 ++ oneB (IntKind.u8.wrap ((qs.map sqV).length : Int))))] ∧
      L = [pts b1 (.cells [.int .u8 k, .int .u64 tx, .slice pc (cs.map dpV).length cc, .slice pq (qs.map sqV).length cq].toArray 59), A, B] ++ R) ?_ ?_
  · refine ok_draw_node (cv := [122]) 5 [2, 3, 6, 12, 13] [pts b1 (.cells [.int .u8 k, .int .u64 tx, .slice pc (cs.map dpV).length cc, .slice pq (qs.map sqV).length cq].toArray 59)] (by kernel_rfl) rfl (by decide +kernel) (by decide +kernel) (by decide +kernel) (takePre takeD) _ rfl ?_
    have d0 : V1s := ⟨.slice none 0 0, rfl⟩
    refine node_have 0 [7, 14, 15] (γ := V1s × V1s) (fun ⟨⟨va, hva⟩, ⟨vb, hvb⟩⟩ ρ L => Knows ρ [(1, .pointer (some ⟨b1, 0, none⟩)), (9, .string (oneB k)), (12, .string (numB (u64N tx) 8)), (19, .string (oneB (IntKind.u8.wrap ((qs.map sqV).length : Int))))] ∧ L = [pts b1 (.cells [.int .u8 k, .int .u64 tx, .slice pc (cs.map dpV).length cc, .slice pq (qs.map sqV).length cq].toArray 59), A, B] ++ R) ?_ ?_
    · rintro ⟨⟨va, hva⟩, ⟨vb, hvb⟩⟩ ρ L ⟨hk, rfl⟩
      refine cont_regs hk ?_
      refine cont_node0 (by decide +kernel) ?_
      repeat' (first | (refine go_Y ?_; intros) | fail)
      refine cont_map (L' := [pts b1 (.cells [.int .u8 k, .int .u64 tx, .slice pc (cs.map dpV).length cc, .slice pq (qs.map sqV).length cq].toArray 59), A, B] ++ R) entD ?_
      exact cont_meet () ⟨⟨rfl, rfl, trivial⟩, rfl⟩
    intro n2_3_6_12_13
    refine node_have 1 [7, 13, 14, 15] (γ := V1s × V1s) (fun ⟨⟨va, hva⟩, ⟨vb, hvb⟩⟩ ρ L => Knows ρ [(1, .pointer (some ⟨b1, 0, none⟩)), (9, .string (oneB k)), (12, .string (numB (u64N tx) 8)), (18, vb)] ∧ L = [pts b1 (.cells [.int .u8 k, .int .u64 tx, .slice pc (cs.map dpV).length cc, .slice pq (qs.map sqV).length cq].toArray 59), A, B, row 5 1 vb [[.int .u8 (IntKind.u8.wrap ((qs.map sqV).length : Int))]]] ++ R) ?_ ?_
    · rintro ⟨⟨va, hva⟩, ⟨vb, hvb⟩⟩ ρ L ⟨hk, rfl⟩
      refine cont_regs hk ?_
      refine cont_node [122] [(13, [13], [7, 14, 15])] rfl (by decide +kernel) ?_
      refine nodeE1 ?_
      · dsimp only [List.length_cons, List.length_nil]
        repeat' (first | (refine go_Y ?_; intros) | fail)
        refine ops_run (s_byte1n rfl rfl (by repeat (first | exact VwIn.here Vw.row | refine VwIn.there ?_)) (u8_lo ((qs.map sqV).length : Int)).1 (u8_lo ((qs.map sqV).length : Int)).2 rfl (takePre takeD) ?_)
        repeat' (first | (refine go_Y ?_; intros) | fail)
        refine cont_map (L' := [pts b1 (.cells [.int .u8 k, .int .u64 tx, .slice pc (cs.map dpV).length cc, .slice pq (qs.map sqV).length cq].toArray 59), A, B] ++ R) entD ?_
        exact n2_3_6_12_13 ⟨⟨va, hva⟩, ⟨vb, hvb⟩⟩ _ _ ⟨⟨rfl, rfl, rfl, rfl, trivial⟩, rfl⟩
    intro n2_3_6_12
    refine node_have 1 [4, 5, 6, 7, 14, 15] (γ := V1s × V1s) (fun ⟨⟨va, hva⟩, ⟨vb, hvb⟩⟩ ρ L => Knows ρ [(1, .pointer (some ⟨b1, 0, none⟩)), (9, .string (oneB k)), (19, .string (oneB (IntKind.u8.wrap ((qs.map sqV).length : Int))))] ∧ L = [pts b1 (.cells [.int .u8 k, .int .u64 tx, .slice pc (cs.map dpV).length cc, .slice pq (qs.map sqV).length cq].toArray 59), A, B] ++ R) ?_ ?_
    · rintro ⟨⟨va, hva⟩, ⟨vb, hvb⟩⟩ ρ L ⟨hk, rfl⟩
      refine cont_regs hk ?_
      refine cont_node [122] [(6, [4, 5, 6], [7, 14, 15])] rfl (by decide +kernel) ?_
      refine nodeE1 ?_
      · dsimp only [List.length_cons, List.length_nil]
        repeat' (first | (refine go_Y ?_; intros) | fail)
        refine clN_Y (hp1) ?_
        intro _ _
        repeat' (first | (refine go_Y ?_; intros) | fail)
        refine cont_map (L' := [pts b1 (.cells [.int .u8 k, .int .u64 tx, .slice pc (cs.map dpV).length cc, .slice pq (qs.map sqV).length cq].toArray 59), A, B] ++ R) entD ?_
        exact n2_3_6_12_13 ⟨⟨va, hva⟩, ⟨vb, hvb⟩⟩ _ _ ⟨⟨rfl, rfl, rfl, rfl, trivial⟩, rfl⟩
    intro n2_3_12_13
    refine node_have 1 [3, 7, 14, 15] (γ := V1s × V1s) (fun ⟨⟨va, hva⟩, ⟨vb, hvb⟩⟩ ρ L => Knows ρ [(1, .pointer (some ⟨b1, 0, none⟩)), (8, va), (12, .string (numB (u64N tx) 8)), (19, .string (oneB (IntKind.u8.wrap ((qs.map sqV).length : Int))))] ∧ L = [pts b1 (.cells [.int .u8 k, .int .u64 tx, .slice pc (cs.map dpV).length cc, .slice pq (qs.map sqV).length cq].toArray 59), A, B, row 5 1 va [[.int .u8 k]]] ++ R) ?_ ?_
    · rintro ⟨⟨va, hva⟩, ⟨vb, hvb⟩⟩ ρ L ⟨hk, rfl⟩
      refine cont_regs hk ?_
      refine cont_node [122] [(3, [3], [7, 14, 15])] rfl (by decide +kernel) ?_
      refine nodeE1 ?_
      · dsimp only [List.length_cons, List.length_nil]
        repeat' (first | (refine go_Y ?_; intros) | fail)
        refine ops_run (s_byte1n rfl rfl (by repeat (first | exact VwIn.here Vw.row | refine VwIn.there ?_)) k0' k1' rfl (takePre takeD) ?_)
        repeat' (first | (refine go_Y ?_; intros) | fail)
        refine cont_map (L' := [pts b1 (.cells [.int .u8 k, .int .u64 tx, .slice pc (cs.map dpV).length cc, .slice pq (qs.map sqV).length cq].toArray 59), A, B] ++ R) entD ?_
        exact n2_3_6_12_13 ⟨⟨va, hva⟩, ⟨vb, hvb⟩⟩ _ _ ⟨⟨rfl, rfl, rfl, rfl, trivial⟩, rfl⟩
    intro n2_6_12_13
    refine node_have 2 [7, 8, 9, 10, 11, 12, 13, 14, 15] (γ := V1s × V1s) (fun ⟨⟨va, hva⟩, ⟨vb, hvb⟩⟩ ρ L => Knows ρ [(1, .pointer (some ⟨b1, 0, none⟩)), (9, .string (oneB k)), (12, .string (numB (u64N tx) 8))] ∧ L = [pts b1 (.cells [.int .u8 k, .int .u64 tx, .slice pc (cs.map dpV).length cc, .slice pq (qs.map sqV).length cq].toArray 59), A, B] ++ R) ?_ ?_
    · rintro ⟨⟨va, hva⟩, ⟨vb, hvb⟩⟩ ρ L ⟨hk, rfl⟩
      refine cont_regs hk ?_
      refine cont_node [122] [(12, [8, 9, 10, 11, 12], [7, 13, 14, 15])] rfl (by decide +kernel) ?_
      refine nodeE1 ?_
      · dsimp only [List.length_cons, List.length_nil]
        repeat' (first | (refine go_Y ?_; intros) | fail)
        rename_i w hw
        refine cont_map (L' := [pts b1 (.cells [.int .u8 k, .int .u64 tx, .slice pc (cs.map dpV).length cc, .slice pq (qs.map sqV).length cq].toArray 59), A, B, row 5 1 w [[.int .u8 (IntKind.u8.wrap ((qs.map sqV).length : Int))]]] ++ R) entD ?_
        exact n2_3_6_12 ⟨⟨va, hva⟩, ⟨w, hw⟩⟩ _ _ ⟨⟨rfl, rfl, rfl, rfl, trivial⟩, rfl⟩
    intro n2_3_6
    refine node_have 2 [4, 5, 6, 7, 13, 14, 15] (γ := V1s × V1s) (fun ⟨⟨va, hva⟩, ⟨vb, hvb⟩⟩ ρ L => Knows ρ [(1, .pointer (some ⟨b1, 0, none⟩)), (9, .string (oneB k)), (18, vb)] ∧ L = [pts b1 (.cells [.int .u8 k, .int .u64 tx, .slice pc (cs.map dpV).length cc, .slice pq (qs.map sqV).length cq].toArray 59), A, B, row 5 1 vb [[.int .u8 (IntKind.u8.wrap ((qs.map sqV).length : Int))]]] ++ R) ?_ ?_
    · rintro ⟨⟨va, hva⟩, ⟨vb, hvb⟩⟩ ρ L ⟨hk, rfl⟩
      refine cont_regs hk ?_
      refine cont_node [122] [(6, [4, 5, 6], [7, 13, 14, 15]), (13, [13], [4, 5, 6, 7, 14, 15])] rfl (by decide +kernel) ?_
      refine nodeE2 ?_ ?_
      · dsimp only [List.length_cons, List.length_nil]
        repeat' (first | (refine go_Y ?_; intros) | fail)
        refine clN_Y (hp1) ?_
        intro _ _
        repeat' (first | (refine go_Y ?_; intros) | fail)
        refine cont_map (L' := [pts b1 (.cells [.int .u8 k, .int .u64 tx, .slice pc (cs.map dpV).length cc, .slice pq (qs.map sqV).length cq].toArray 59), A, B, row 5 1 vb [[.int .u8 (IntKind.u8.wrap ((qs.map sqV).length : Int))]]] ++ R) entD ?_
        exact n2_3_6_12 ⟨⟨va, hva⟩, ⟨vb, hvb⟩⟩ _ _ ⟨⟨rfl, rfl, rfl, rfl, trivial⟩, rfl⟩
      · dsimp only [List.length_cons, List.length_nil]
        repeat' (first | (refine go_Y ?_; intros) | fail)
        refine ops_run (s_byte1n rfl rfl (by repeat (first | exact VwIn.here Vw.row | refine VwIn.there ?_)) (u8_lo ((qs.map sqV).length : Int)).1 (u8_lo ((qs.map sqV).length : Int)).2 rfl (takePre takeD) ?_)
        repeat' (first | (refine go_Y ?_; intros) | fail)
        refine cont_map (L' := [pts b1 (.cells [.int .u8 k, .int .u64 tx, .slice pc (cs.map dpV).length cc, .slice pq (qs.map sqV).length cq].toArray 59), A, B] ++ R) entD ?_
        exact n2_3_12_13 ⟨⟨va, hva⟩, ⟨vb, hvb⟩⟩ _ _ ⟨⟨rfl, rfl, rfl, trivial⟩, rfl⟩
    intro n2_3_12
    refine node_have 2 [3, 7, 13, 14, 15] (γ := V1s × V1s) (fun ⟨⟨va, hva⟩, ⟨vb, hvb⟩⟩ ρ L => Knows ρ [(1, .pointer (some ⟨b1, 0, none⟩)), (8, va), (12, .string (numB (u64N tx) 8)), (18, vb)] ∧ L = [pts b1 (.cells [.int .u8 k, .int .u64 tx, .slice pc (cs.map dpV).length cc, .slice pq (qs.map sqV).length cq].toArray 59), A, B, row 5 1 va [[.int .u8 k]], row 5 1 vb [[.int .u8 (IntKind.u8.wrap ((qs.map sqV).length : Int))]]] ++ R) ?_ ?_
    · rintro ⟨⟨va, hva⟩, ⟨vb, hvb⟩⟩ ρ L ⟨hk, rfl⟩
      refine cont_regs hk ?_
      refine cont_node [122] [(3, [3], [7, 13, 14, 15]), (13, [13], [3, 7, 14, 15])] rfl (by decide +kernel) ?_
      refine nodeE2 ?_ ?_
      · dsimp only [List.length_cons, List.length_nil]
        repeat' (first | (refine go_Y ?_; intros) | fail)
        refine ops_run (s_byte1n rfl rfl (by repeat (first | exact VwIn.here Vw.row | refine VwIn.there ?_)) k0' k1' rfl (takePre takeD) ?_)
        repeat' (first | (refine go_Y ?_; intros) | fail)
        refine cont_map (L' := [pts b1 (.cells [.int .u8 k, .int .u64 tx, .slice pc (cs.map dpV).length cc, .slice pq (qs.map sqV).length cq].toArray 59), A, B, row 5 1 vb [[.int .u8 (IntKind.u8.wrap ((qs.map sqV).length : Int))]]] ++ R) entD ?_
        exact n2_3_6_12 ⟨⟨va, hva⟩, ⟨vb, hvb⟩⟩ _ _ ⟨⟨rfl, rfl, rfl, rfl, trivial⟩, rfl⟩
      · dsimp only [List.length_cons, List.length_nil]
        repeat' (first | (refine go_Y ?_; intros) | fail)
        refine ops_run (s_byte1n rfl rfl (by repeat (first | exact VwIn.here Vw.row | refine VwIn.there ?_)) (u8_lo ((qs.map sqV).length : Int)).1 (u8_lo ((qs.map sqV).length : Int)).2 rfl (takePre takeD) ?_)
        repeat' (first | (refine go_Y ?_; intros) | fail)
        refine cont_map (L' := [pts b1 (.cells [.int .u8 k, .int .u64 tx, .slice pc (cs.map dpV).length cc, .slice pq (qs.map sqV).length cq].toArray 59), A, B, row 5 1 va [[.int .u8 k]]] ++ R) entD ?_
        exact n2_6_12_13 ⟨⟨va, hva⟩, ⟨vb, hvb⟩⟩ _ _ ⟨⟨rfl, rfl, rfl, rfl, trivial⟩, rfl⟩
    intro n2_6_12
    refine node_have 2 [3, 4, 5, 6, 7, 14, 15] (γ := V1s × V1s) (fun ⟨⟨va, hva⟩, ⟨vb, hvb⟩⟩ ρ L => Knows ρ [(1, .pointer (some ⟨b1, 0, none⟩)), (8, va), (19, .string (oneB (IntKind.u8.wrap ((qs.map sqV).length : Int))))] ∧ L = [pts b1 (.cells [.int .u8 k, .int .u64 tx, .slice pc (cs.map dpV).length cc, .slice pq (qs.map sqV).length cq].toArray 59), A, B, row 5 1 va [[.int .u8 k]]] ++ R) ?_ ?_
    · rintro ⟨⟨va, hva⟩, ⟨vb, hvb⟩⟩ ρ L ⟨hk, rfl⟩
      refine cont_regs hk ?_
      refine cont_node [122] [(3, [3], [4, 5, 6, 7, 14, 15]), (6, [4, 5, 6], [3, 7, 14, 15])] rfl (by decide +kernel) ?_
      refine nodeE2 ?_ ?_
      · dsimp only [List.length_cons, List.length_nil]
        repeat' (first | (refine go_Y ?_; intros) | fail)
        refine ops_run (s_byte1n rfl rfl (by repeat (first | exact VwIn.here Vw.row | refine VwIn.there ?_)) k0' k1' rfl (takePre takeD) ?_)
        repeat' (first | (refine go_Y ?_; intros) | fail)
        refine cont_map (L' := [pts b1 (.cells [.int .u8 k, .int .u64 tx, .slice pc (cs.map dpV).length cc, .slice pq (qs.map sqV).length cq].toArray 59), A, B] ++ R) entD ?_
        exact n2_3_12_13 ⟨⟨va, hva⟩, ⟨vb, hvb⟩⟩ _ _ ⟨⟨rfl, rfl, rfl, trivial⟩, rfl⟩
      · dsimp only [List.length_cons, List.length_nil]
        repeat' (first | (refine go_Y ?_; intros) | fail)
        refine clN_Y (hp1) ?_
        intro _ _
        repeat' (first | (refine go_Y ?_; intros) | fail)
        refine cont_map (L' := [pts b1 (.cells [.int .u8 k, .int .u64 tx, .slice pc (cs.map dpV).length cc, .slice pq (qs.map sqV).length cq].toArray 59), A, B, row 5 1 va [[.int .u8 k]]] ++ R) entD ?_
        exact n2_6_12_13 ⟨⟨va, hva⟩, ⟨vb, hvb⟩⟩ _ _ ⟨⟨rfl, rfl, rfl, rfl, trivial⟩, rfl⟩
    intro n2_12_13
    refine node_have 2 [0, 1, 2, 3, 7, 14, 15] (γ := V1s × V1s) (fun ⟨⟨va, hva⟩, ⟨vb, hvb⟩⟩ ρ L => Knows ρ [(1, .pointer (some ⟨b1, 0, none⟩)), (12, .string (numB (u64N tx) 8)), (19, .string (oneB (IntKind.u8.wrap ((qs.map sqV).length : Int))))] ∧ L = [pts b1 (.cells [.int .u8 k, .int .u64 tx, .slice pc (cs.map dpV).length cc, .slice pq (qs.map sqV).length cq].toArray 59), A, B] ++ R) ?_ ?_
    · rintro ⟨⟨va, hva⟩, ⟨vb, hvb⟩⟩ ρ L ⟨hk, rfl⟩
      refine cont_regs hk ?_
      refine cont_node [122] [(2, [0, 1, 2], [3, 7, 14, 15])] rfl (by decide +kernel) ?_
      refine nodeE1 ?_
      · dsimp only [List.length_cons, List.length_nil]
        repeat' (first | (refine go_Y ?_; intros) | fail)
        rename_i w hw
        refine cont_map (L' := [pts b1 (.cells [.int .u8 k, .int .u64 tx, .slice pc (cs.map dpV).length cc, .slice pq (qs.map sqV).length cq].toArray 59), A, B, row 5 1 w [[.int .u8 k]]] ++ R) entD ?_
        exact n2_6_12_13 ⟨⟨w, hw⟩, ⟨vb, hvb⟩⟩ _ _ ⟨⟨rfl, rfl, rfl, rfl, trivial⟩, rfl⟩
    intro n6_12_13
    refine node_have 3 [4, 5, 6, 7, 8, 9, 10, 11, 12, 13, 14, 15] (γ := V1s × V1s) (fun ⟨⟨va, hva⟩, ⟨vb, hvb⟩⟩ ρ L => Knows ρ [(1, .pointer (some ⟨b1, 0, none⟩)), (9, .string (oneB k))] ∧ L = [pts b1 (.cells [.int .u8 k, .int .u64 tx, .slice pc (cs.map dpV).length cc, .slice pq (qs.map sqV).length cq].toArray 59), A, B] ++ R) ?_ ?_
    · rintro ⟨⟨va, hva⟩, ⟨vb, hvb⟩⟩ ρ L ⟨hk, rfl⟩
      refine cont_regs hk ?_
      refine cont_node [122] [(6, [4, 5, 6], [7, 8, 9, 10, 11, 12, 13, 14, 15]), (12, [8, 9, 10, 11, 12], [4, 5, 6, 7, 13, 14, 15])] rfl (by decide +kernel) ?_
      refine nodeE2 ?_ ?_
      · dsimp only [List.length_cons, List.length_nil]
        repeat' (first | (refine go_Y ?_; intros) | fail)
        refine clN_Y (hp1) ?_
        intro _ _
        repeat' (first | (refine go_Y ?_; intros) | fail)
        refine cont_map (L' := [pts b1 (.cells [.int .u8 k, .int .u64 tx, .slice pc (cs.map dpV).length cc, .slice pq (qs.map sqV).length cq].toArray 59), A, B] ++ R) entD ?_
        exact n2_3_6 ⟨⟨va, hva⟩, ⟨vb, hvb⟩⟩ _ _ ⟨⟨rfl, rfl, rfl, trivial⟩, rfl⟩
      · dsimp only [List.length_cons, List.length_nil]
        repeat' (first | (refine go_Y ?_; intros) | fail)
        rename_i w hw
        refine cont_map (L' := [pts b1 (.cells [.int .u8 k, .int .u64 tx, .slice pc (cs.map dpV).length cc, .slice pq (qs.map sqV).length cq].toArray 59), A, B, row 5 1 w [[.int .u8 (IntKind.u8.wrap ((qs.map sqV).length : Int))]]] ++ R) entD ?_
        exact n2_3_12 ⟨⟨va, hva⟩, ⟨w, hw⟩⟩ _ _ ⟨⟨rfl, rfl, rfl, trivial⟩, rfl⟩
    intro n2_3
    refine node_have 3 [3, 7, 8, 9, 10, 11, 12, 13, 14, 15] (γ := V1s × V1s) (fun ⟨⟨va, hva⟩, ⟨vb, hvb⟩⟩ ρ L => Knows ρ [(1, .pointer (some ⟨b1, 0, none⟩)), (8, va), (12, .string (numB (u64N tx) 8))] ∧ L = [pts b1 (.cells [.int .u8 k, .int .u64 tx, .slice pc (cs.map dpV).length cc, .slice pq (qs.map sqV).length cq].toArray 59), A, B, row 5 1 va [[.int .u8 k]]] ++ R) ?_ ?_
    · rintro ⟨⟨va, hva⟩, ⟨vb, hvb⟩⟩ ρ L ⟨hk, rfl⟩
      refine cont_regs hk ?_
      refine cont_node [122] [(3, [3], [7, 8, 9, 10, 11, 12, 13, 14, 15]), (12, [8, 9, 10, 11, 12], [3, 7, 13, 14, 15])] rfl (by decide +kernel) ?_
      refine nodeE2 ?_ ?_
      · dsimp only [List.length_cons, List.length_nil]
        repeat' (first | (refine go_Y ?_; intros) | fail)
        refine ops_run (s_byte1n rfl rfl (by repeat (first | exact VwIn.here Vw.row | refine VwIn.there ?_)) k0' k1' rfl (takePre takeD) ?_)
        repeat' (first | (refine go_Y ?_; intros) | fail)
        refine cont_map (L' := [pts b1 (.cells [.int .u8 k, .int .u64 tx, .slice pc (cs.map dpV).length cc, .slice pq (qs.map sqV).length cq].toArray 59), A, B] ++ R) entD ?_
        exact n2_3_6 ⟨⟨va, hva⟩, ⟨vb, hvb⟩⟩ _ _ ⟨⟨rfl, rfl, rfl, trivial⟩, rfl⟩
      · dsimp only [List.length_cons, List.length_nil]
        repeat' (first | (refine go_Y ?_; intros) | fail)
        rename_i w hw
        refine cont_map (L' := [pts b1 (.cells [.int .u8 k, .int .u64 tx, .slice pc (cs.map dpV).length cc, .slice pq (qs.map sqV).length cq].toArray 59), A, B, row 5 1 va [[.int .u8 k]], row 5 1 w [[.int .u8 (IntKind.u8.wrap ((qs.map sqV).length : Int))]]] ++ R) entD ?_
        exact n2_6_12 ⟨⟨va, hva⟩, ⟨w, hw⟩⟩ _ _ ⟨⟨rfl, rfl, rfl, rfl, trivial⟩, rfl⟩
    intro n2_6
    refine node_have 3 [3, 4, 5, 6, 7, 13, 14, 15] (γ := V1s × V1s) (fun ⟨⟨va, hva⟩, ⟨vb, hvb⟩⟩ ρ L => Knows ρ [(1, .pointer (some ⟨b1, 0, none⟩)), (8, va), (18, vb)] ∧ L = [pts b1 (.cells [.int .u8 k, .int .u64 tx, .slice pc (cs.map dpV).length cc, .slice pq (qs.map sqV).length cq].toArray 59), A, B, row 5 1 va [[.int .u8 k]], row 5 1 vb [[.int .u8 (IntKind.u8.wrap ((qs.map sqV).length : Int))]]] ++ R) ?_ ?_
    · rintro ⟨⟨va, hva⟩, ⟨vb, hvb⟩⟩ ρ L ⟨hk, rfl⟩
      refine cont_regs hk ?_
      refine cont_node [122] [(3, [3], [4, 5, 6, 7, 13, 14, 15]), (6, [4, 5, 6], [3, 7, 13, 14, 15]), (13, [13], [3, 4, 5, 6, 7, 14, 15])] rfl (by decide +kernel) ?_
      refine nodeE3 ?_ ?_ ?_
      · dsimp only [List.length_cons, List.length_nil]
        repeat' (first | (refine go_Y ?_; intros) | fail)
        refine ops_run (s_byte1n rfl rfl (by repeat (first | exact VwIn.here Vw.row | refine VwIn.there ?_)) k0' k1' rfl (takePre takeD) ?_)
        repeat' (first | (refine go_Y ?_; intros) | fail)
        refine cont_map (L' := [pts b1 (.cells [.int .u8 k, .int .u64 tx, .slice pc (cs.map dpV).length cc, .slice pq (qs.map sqV).length cq].toArray 59), A, B, row 5 1 vb [[.int .u8 (IntKind.u8.wrap ((qs.map sqV).length : Int))]]] ++ R) entD ?_
        exact n2_3_12 ⟨⟨va, hva⟩, ⟨vb, hvb⟩⟩ _ _ ⟨⟨rfl, rfl, rfl, trivial⟩, rfl⟩
      · dsimp only [List.length_cons, List.length_nil]
        repeat' (first | (refine go_Y ?_; intros) | fail)
        refine clN_Y (hp1) ?_
        intro _ _
        repeat' (first | (refine go_Y ?_; intros) | fail)
        refine cont_map (L' := [pts b1 (.cells [.int .u8 k, .int .u64 tx, .slice pc (cs.map dpV).length cc, .slice pq (qs.map sqV).length cq].toArray 59), A, B, row 5 1 va [[.int .u8 k]], row 5 1 vb [[.int .u8 (IntKind.u8.wrap ((qs.map sqV).length : Int))]]] ++ R) entD ?_
        exact n2_6_12 ⟨⟨va, hva⟩, ⟨vb, hvb⟩⟩ _ _ ⟨⟨rfl, rfl, rfl, rfl, trivial⟩, rfl⟩
      · dsimp only [List.length_cons, List.length_nil]
        repeat' (first | (refine go_Y ?_; intros) | fail)
        refine ops_run (s_byte1n rfl rfl (by repeat (first | exact VwIn.here Vw.row | refine VwIn.there ?_)) (u8_lo ((qs.map sqV).length : Int)).1 (u8_lo ((qs.map sqV).length : Int)).2 rfl (takePre takeD) ?_)
        repeat' (first | (refine go_Y ?_; intros) | fail)
        refine cont_map (L' := [pts b1 (.cells [.int .u8 k, .int .u64 tx, .slice pc (cs.map dpV).length cc, .slice pq (qs.map sqV).length cq].toArray 59), A, B, row 5 1 va [[.int .u8 k]]] ++ R) entD ?_
        exact n2_12_13 ⟨⟨va, hva⟩, ⟨vb, hvb⟩⟩ _ _ ⟨⟨rfl, rfl, rfl, trivial⟩, rfl⟩
    intro n2_12
    refine node_have 3 [0, 1, 2, 3, 7, 13, 14, 15] (γ := V1s × V1s) (fun ⟨⟨va, hva⟩, ⟨vb, hvb⟩⟩ ρ L => Knows ρ [(1, .pointer (some ⟨b1, 0, none⟩)), (12, .string (numB (u64N tx) 8)), (18, vb)] ∧ L = [pts b1 (.cells [.int .u8 k, .int .u64 tx, .slice pc (cs.map dpV).length cc, .slice pq (qs.map sqV).length cq].toArray 59), A, B, row 5 1 vb [[.int .u8 (IntKind.u8.wrap ((qs.map sqV).length : Int))]]] ++ R) ?_ ?_
    · rintro ⟨⟨va, hva⟩, ⟨vb, hvb⟩⟩ ρ L ⟨hk, rfl⟩
      refine cont_regs hk ?_
      refine cont_node [122] [(2, [0, 1, 2], [3, 7, 13, 14, 15]), (13, [13], [0, 1, 2, 3, 7, 14, 15])] rfl (by decide +kernel) ?_
      refine nodeE2 ?_ ?_
      · dsimp only [List.length_cons, List.length_nil]
        repeat' (first | (refine go_Y ?_; intros) | fail)
        rename_i w hw
        refine cont_map (L' := [pts b1 (.cells [.int .u8 k, .int .u64 tx, .slice pc (cs.map dpV).length cc, .slice pq (qs.map sqV).length cq].toArray 59), A, B, row 5 1 w [[.int .u8 k]], row 5 1 vb [[.int .u8 (IntKind.u8.wrap ((qs.map sqV).length : Int))]]] ++ R) entD ?_
        exact n2_6_12 ⟨⟨w, hw⟩, ⟨vb, hvb⟩⟩ _ _ ⟨⟨rfl, rfl, rfl, rfl, trivial⟩, rfl⟩
      · dsimp only [List.length_cons, List.length_nil]
        repeat' (first | (refine go_Y ?_; intros) | fail)
        refine ops_run (s_byte1n rfl rfl (by repeat (first | exact VwIn.here Vw.row | refine VwIn.there ?_)) (u8_lo ((qs.map sqV).length : Int)).1 (u8_lo ((qs.map sqV).length : Int)).2 rfl (takePre takeD) ?_)
        repeat' (first | (refine go_Y ?_; intros) | fail)
        refine cont_map (L' := [pts b1 (.cells [.int .u8 k, .int .u64 tx, .slice pc (cs.map dpV).length cc, .slice pq (qs.map sqV).length cq].toArray 59), A, B] ++ R) entD ?_
        exact n6_12_13 ⟨⟨va, hva⟩, ⟨vb, hvb⟩⟩ _ _ ⟨⟨rfl, rfl, rfl, trivial⟩, rfl⟩
    intro n6_12
    refine node_have 3 [0, 1, 2, 3, 4, 5, 6, 7, 14, 15] (γ := V1s × V1s) (fun ⟨⟨va, hva⟩, ⟨vb, hvb⟩⟩ ρ L => Knows ρ [(1, .pointer (some ⟨b1, 0, none⟩)), (19, .string (oneB (IntKind.u8.wrap ((qs.map sqV).length : Int))))] ∧ L = [pts b1 (.cells [.int .u8 k, .int .u64 tx, .slice pc (cs.map dpV).length cc, .slice pq (qs.map sqV).length cq].toArray 59), A, B] ++ R) ?_ ?_
    · rintro ⟨⟨va, hva⟩, ⟨vb, hvb⟩⟩ ρ L ⟨hk, rfl⟩
      refine cont_regs hk ?_
      refine cont_node [122] [(2, [0, 1, 2], [3, 4, 5, 6, 7, 14, 15]), (6, [4, 5, 6], [0, 1, 2, 3, 7, 14, 15])] rfl (by decide +kernel) ?_
      refine nodeE2 ?_ ?_
      · dsimp only [List.length_cons, List.length_nil]
        repeat' (first | (refine go_Y ?_; intros) | fail)
        rename_i w hw
        refine cont_map (L' := [pts b1 (.cells [.int .u8 k, .int .u64 tx, .slice pc (cs.map dpV).length cc, .slice pq (qs.map sqV).length cq].toArray 59), A, B, row 5 1 w [[.int .u8 k]]] ++ R) entD ?_
        exact n2_12_13 ⟨⟨w, hw⟩, ⟨vb, hvb⟩⟩ _ _ ⟨⟨rfl, rfl, rfl, trivial⟩, rfl⟩
      · dsimp only [List.length_cons, List.length_nil]
        repeat' (first | (refine go_Y ?_; intros) | fail)
        refine clN_Y (hp1) ?_
        intro _ _
        repeat' (first | (refine go_Y ?_; intros) | fail)
        refine cont_map (L' := [pts b1 (.cells [.int .u8 k, .int .u64 tx, .slice pc (cs.map dpV).length cc, .slice pq (qs.map sqV).length cq].toArray 59), A, B] ++ R) entD ?_
        exact n6_12_13 ⟨⟨va, hva⟩, ⟨vb, hvb⟩⟩ _ _ ⟨⟨rfl, rfl, rfl, trivial⟩, rfl⟩
    intro n12_13
    refine node_have 4 [3, 4, 5, 6, 7, 8, 9, 10, 11, 12, 13, 14, 15] (γ := V1s × V1s) (fun ⟨⟨va, hva⟩, ⟨vb, hvb⟩⟩ ρ L => Knows ρ [(1, .pointer (some ⟨b1, 0, none⟩)), (8, va)] ∧ L = [pts b1 (.cells [.int .u8 k, .int .u64 tx, .slice pc (cs.map dpV).length cc, .slice pq (qs.map sqV).length cq].toArray 59), A, B, row 5 1 va [[.int .u8 k]]] ++ R) ?_ ?_
    · rintro ⟨⟨va, hva⟩, ⟨vb, hvb⟩⟩ ρ L ⟨hk, rfl⟩
      refine cont_regs hk ?_
      refine cont_node [122] [(3, [3], [4, 5, 6, 7, 8, 9, 10, 11, 12, 13, 14, 15]), (6, [4, 5, 6], [3, 7, 8, 9, 10, 11, 12, 13, 14, 15]), (12, [8, 9, 10, 11, 12], [3, 4, 5, 6, 7, 13, 14, 15])] rfl (by decide +kernel) ?_
      refine nodeE3 ?_ ?_ ?_
      · dsimp only [List.length_cons, List.length_nil]
        repeat' (first | (refine go_Y ?_; intros) | fail)
        refine ops_run (s_byte1n rfl rfl (by repeat (first | exact VwIn.here Vw.row | refine VwIn.there ?_)) k0' k1' rfl (takePre takeD) ?_)
        repeat' (first | (refine go_Y ?_; intros) | fail)
        refine cont_map (L' := [pts b1 (.cells [.int .u8 k, .int .u64 tx, .slice pc (cs.map dpV).length cc, .slice pq (qs.map sqV).length cq].toArray 59), A, B] ++ R) entD ?_
        exact n2_3 ⟨⟨va, hva⟩, ⟨vb, hvb⟩⟩ _ _ ⟨⟨rfl, rfl, trivial⟩, rfl⟩
      · dsimp only [List.length_cons, List.length_nil]
        repeat' (first | (refine go_Y ?_; intros) | fail)
        refine clN_Y (hp1) ?_
        intro _ _
        repeat' (first | (refine go_Y ?_; intros) | fail)
        refine cont_map (L' := [pts b1 (.cells [.int .u8 k, .int .u64 tx, .slice pc (cs.map dpV).length cc, .slice pq (qs.map sqV).length cq].toArray 59), A, B, row 5 1 va [[.int .u8 k]]] ++ R) entD ?_
        exact n2_6 ⟨⟨va, hva⟩, ⟨vb, hvb⟩⟩ _ _ ⟨⟨rfl, rfl, rfl, trivial⟩, rfl⟩
      · dsimp only [List.length_cons, List.length_nil]
        repeat' (first | (refine go_Y ?_; intros) | fail)
        rename_i w hw
        refine cont_map (L' := [pts b1 (.cells [.int .u8 k, .int .u64 tx, .slice pc (cs.map dpV).length cc, .slice pq (qs.map sqV).length cq].toArray 59), A, B, row 5 1 va [[.int .u8 k]], row 5 1 w [[.int .u8 (IntKind.u8.wrap ((qs.map sqV).length : Int))]]] ++ R) entD ?_
        exact n2_12 ⟨⟨va, hva⟩, ⟨w, hw⟩⟩ _ _ ⟨⟨rfl, rfl, rfl, trivial⟩, rfl⟩
    intro n2
    refine node_have 4 [0, 1, 2, 3, 7, 8, 9, 10, 11, 12, 13, 14, 15] (γ := V1s × V1s) (fun ⟨⟨va, hva⟩, ⟨vb, hvb⟩⟩ ρ L => Knows ρ [(1, .pointer (some ⟨b1, 0, none⟩)), (12, .string (numB (u64N tx) 8))] ∧ L = [pts b1 (.cells [.int .u8 k, .int .u64 tx, .slice pc (cs.map dpV).length cc, .slice pq (qs.map sqV).length cq].toArray 59), A, B] ++ R) ?_ ?_
    · rintro ⟨⟨va, hva⟩, ⟨vb, hvb⟩⟩ ρ L ⟨hk, rfl⟩
      refine cont_regs hk ?_
      refine cont_node [122] [(2, [0, 1, 2], [3, 7, 8, 9, 10, 11, 12, 13, 14, 15]), (12, [8, 9, 10, 11, 12], [0, 1, 2, 3, 7, 13, 14, 15])] rfl (by decide +kernel) ?_
      refine nodeE2 ?_ ?_
      · dsimp only [List.length_cons, List.length_nil]
        repeat' (first | (refine go_Y ?_; intros) | fail)
        rename_i w hw
        refine cont_map (L' := [pts b1 (.cells [.int .u8 k, .int .u64 tx, .slice pc (cs.map dpV).length cc, .slice pq (qs.map sqV).length cq].toArray 59), A, B, row 5 1 w [[.int .u8 k]]] ++ R) entD ?_
        exact n2_6 ⟨⟨w, hw⟩, ⟨vb, hvb⟩⟩ _ _ ⟨⟨rfl, rfl, rfl, trivial⟩, rfl⟩
      · dsimp only [List.length_cons, List.length_nil]
        repeat' (first | (refine go_Y ?_; intros) | fail)
        rename_i w hw
        refine cont_map (L' := [pts b1 (.cells [.int .u8 k, .int .u64 tx, .slice pc (cs.map dpV).length cc, .slice pq (qs.map sqV).length cq].toArray 59), A, B, row 5 1 w [[.int .u8 (IntKind.u8.wrap ((qs.map sqV).length : Int))]]] ++ R) entD ?_
        exact n6_12 ⟨⟨va, hva⟩, ⟨w, hw⟩⟩ _ _ ⟨⟨rfl, rfl, rfl, trivial⟩, rfl⟩
    intro n6
    refine node_have 4 [0, 1, 2, 3, 4, 5, 6, 7, 13, 14, 15] (γ := V1s × V1s) (fun ⟨⟨va, hva⟩, ⟨vb, hvb⟩⟩ ρ L => Knows ρ [(1, .pointer (some ⟨b1, 0, none⟩)), (18, vb)] ∧ L = [pts b1 (.cells [.int .u8 k, .int .u64 tx, .slice pc (cs.map dpV).length cc, .slice pq (qs.map sqV).length cq].toArray 59), A, B, row 5 1 vb [[.int .u8 (IntKind.u8.wrap ((qs.map sqV).length : Int))]]] ++ R) ?_ ?_
    · rintro ⟨⟨va, hva⟩, ⟨vb, hvb⟩⟩ ρ L ⟨hk, rfl⟩
      refine cont_regs hk ?_
      refine cont_node [122] [(2, [0, 1, 2], [3, 4, 5, 6, 7, 13, 14, 15]), (6, [4, 5, 6], [0, 1, 2, 3, 7, 13, 14, 15]), (13, [13], [0, 1, 2, 3, 4, 5, 6, 7, 14, 15])] rfl (by decide +kernel) ?_
      refine nodeE3 ?_ ?_ ?_
      · dsimp only [List.length_cons, List.length_nil]
        repeat' (first | (refine go_Y ?_; intros) | fail)
        rename_i w hw
        refine cont_map (L' := [pts b1 (.cells [.int .u8 k, .int .u64 tx, .slice pc (cs.map dpV).length cc, .slice pq (qs.map sqV).length cq].toArray 59), A, B, row 5 1 w [[.int .u8 k]], row 5 1 vb [[.int .u8 (IntKind.u8.wrap ((qs.map sqV).length : Int))]]] ++ R) entD ?_
        exact n2_12 ⟨⟨w, hw⟩, ⟨vb, hvb⟩⟩ _ _ ⟨⟨rfl, rfl, rfl, trivial⟩, rfl⟩
      · dsimp only [List.length_cons, List.length_nil]
        repeat' (first | (refine go_Y ?_; intros) | fail)
        refine clN_Y (hp1) ?_
        intro _ _
        repeat' (first | (refine go_Y ?_; intros) | fail)
        refine cont_map (L' := [pts b1 (.cells [.int .u8 k, .int .u64 tx, .slice pc (cs.map dpV).length cc, .slice pq (qs.map sqV).length cq].toArray 59), A, B, row 5 1 vb [[.int .u8 (IntKind.u8.wrap ((qs.map sqV).length : Int))]]] ++ R) entD ?_
        exact n6_12 ⟨⟨va, hva⟩, ⟨vb, hvb⟩⟩ _ _ ⟨⟨rfl, rfl, rfl, trivial⟩, rfl⟩
      · dsimp only [List.length_cons, List.length_nil]
        repeat' (first | (refine go_Y ?_; intros) | fail)
        refine ops_run (s_byte1n rfl rfl (by repeat (first | exact VwIn.here Vw.row | refine VwIn.there ?_)) (u8_lo ((qs.map sqV).length : Int)).1 (u8_lo ((qs.map sqV).length : Int)).2 rfl (takePre takeD) ?_)
        repeat' (first | (refine go_Y ?_; intros) | fail)
        refine cont_map (L' := [pts b1 (.cells [.int .u8 k, .int .u64 tx, .slice pc (cs.map dpV).length cc, .slice pq (qs.map sqV).length cq].toArray 59), A, B] ++ R) entD ?_
        exact n12_13 ⟨⟨va, hva⟩, ⟨vb, hvb⟩⟩ _ _ ⟨⟨rfl, rfl, trivial⟩, rfl⟩
    intro n12
    refine cont_node [122] [(2, [0, 1, 2], [3, 4, 5, 6, 7, 8, 9, 10, 11, 12, 13, 14, 15]), (6, [4, 5, 6], [0, 1, 2, 3, 7, 8, 9, 10, 11, 12, 13, 14, 15]), (12, [8, 9, 10, 11, 12], [0, 1, 2, 3, 4, 5, 6, 7, 13, 14, 15])] rfl (by decide +kernel) ?_
    refine nodeE3 ?_ ?_ ?_
    · dsimp only [List.length_cons, List.length_nil]
      repeat' (first | (refine go_Y ?_; intros) | fail)
      rename_i w hw
      refine cont_map (L' := [pts b1 (.cells [.int .u8 k, .int .u64 tx, .slice pc (cs.map dpV).length cc, .slice pq (qs.map sqV).length cq].toArray 59), A, B, row 5 1 w [[.int .u8 k]]] ++ R) entD ?_
      exact n2 ⟨⟨w, hw⟩, d0⟩ _ _ ⟨⟨rfl, rfl, trivial⟩, rfl⟩
    · dsimp only [List.length_cons, List.length_nil]
      repeat' (first | (refine go_Y ?_; intros) | fail)
      refine clN_Y (hp1) ?_
      intro _ _
      repeat' (first | (refine go_Y ?_; intros) | fail)
      refine cont_map (L' := [pts b1 (.cells [.int .u8 k, .int .u64 tx, .slice pc (cs.map dpV).length cc, .slice pq (qs.map sqV).length cq].toArray 59), A, B] ++ R) entD ?_
      exact n6 ⟨d0, d0⟩ _ _ ⟨⟨rfl, rfl, trivial⟩, rfl⟩
    · dsimp only [List.length_cons, List.length_nil]
      repeat' (first | (refine go_Y ?_; intros) | fail)
      rename_i w hw
      refine cont_map (L' := [pts b1 (.cells [.int .u8 k, .int .u64 tx, .slice pc (cs.map dpV).length cc, .slice pq (qs.map sqV).length cq].toArray 59), A, B, row 5 1 w [[.int .u8 (IntKind.u8.wrap ((qs.map sqV).length : Int))]]] ++ R) entD ?_
      exact n12 ⟨d0, ⟨w, hw⟩⟩ _ _ ⟨⟨rfl, rfl, trivial⟩, rfl⟩
  rintro _ ρ L ⟨hk, rfl⟩
  refine cont_regs hk ?_
  have y5 : (oneB k ++ numB (u64N tx) 8 ++ oneB (IntKind.u8.wrap ((qs.map sqV).length : Int))).size = 10 := by rw [ByteArray.size_append, y3, y4]
  generalize oneB k ++ numB (u64N tx) 8 ++ oneB (IntKind.u8.wrap ((qs.map sqV).length : Int)) = H at y5
  clear y1 y2 y3 y4 hp1
  repeat' (first | (refine go_Y ?_; intros) | (refine gs_Y ?_ ?_ <;> (intro hgd; try (simp only [Bool.not_true, Bool.not_false] at hgd))) | (refine gc_Y ?_ ?_ <;> intro _) | fail)
  refine ok_loop' (γ := Nat) (fun j ρ L => j ≤ qs.length ∧ Knows ρ [(1, .pointer (some ⟨b1, 0, none⟩)), (3, .string (numsB (qs.take j) 8 H)), (4, .int .i64 (j : Int))] ∧ L = [pts b1 (.cells [.int .u8 k, .int .u64 tx, .slice pc (cs.map dpV).length cc, .slice pq (qs.map sqV).length cq].toArray 59), A, B] ++ R) (fun j => qs.length - j) 0 ⟨by omega, ⟨rfl, rfl, rfl, trivial⟩, rfl⟩ ?_
  rintro j ρ L ⟨hj, hk, rfl⟩
  refine ok_regs hk ?_
  cases v1 : decide ((j : Int) < ((qs.map sqV).length : Int)) with
  | true =>
    have hj0 : j < qs.length := by rw [decide_eq_true_eq] at v1; omega
    have hx : (qs.map sqV)[j]? = some (sqV qs[j]) := by rw [List.getElem?_map, List.getElem?_eq_getElem hj0]; rfl
    have hjn : j < (qs.map sqV).length := by omega
    obtain ⟨x0, x1⟩ := hq _ (List.getElem_mem hj0)
    have hp := num05_spec (u64N qs[j]) 8 (u64N_lt _) (by omega)
    rw [u64N_eq, u64_eq x0 x1] at hp
    have hst := numsB_step hj0 8 H
    have w1 := numsB_size (qs.take j) 8 H
    have w2 := numB_size (u64N qs[j]) 8
    have w3 : (qs.take j).length ≤ 12 := by rw [List.length_take]; omega
    refine ok_learn (VwIn.base (VwIn.there (VwIn.there (VwIn.here hB))) (by intro e; rw [e] at hjn; simp at hjn)) ?_
    rintro ⟨bu, ou, rfl⟩
    generalize qs[j] = x at hx hp hst w2 x0 x1
    dsimp only [sqV] at hx
    repeat' (first | (refine go_Y ?_; intros) | (refine gs_Y ?_ ?_ <;> (intro hgd; try (simp only [Bool.not_true, Bool.not_false] at hgd))) | (refine gc_Y ?_ ?_ <;> intro _) | fail)
    refine cl_Y (hp) ?_
    intro _ _
    repeat' (first | (refine go_Y ?_; intros) | (refine gs_Y ?_ ?_ <;> (intro hgd; try (simp only [Bool.not_true, Bool.not_false] at hgd))) | (refine gc_Y ?_ ?_ <;> intro _) | fail)
    rw [← hst]
    refine cont_map (L' := [pts b1 (.cells [.int .u8 k, .int .u64 tx, .slice pc (cs.map dpV).length cc, .slice (some ⟨bu, ou, none⟩) (qs.map sqV).length cq].toArray 59), A, B] ++ R) entD ?_
    refine cont_back (j + 1) ⟨hj0, ⟨rfl, rfl, rfl, trivial⟩, rfl⟩ (by omega)
  | false =>
  have hje : j = qs.length := by rw [decide_eq_false_iff_not] at v1; omega
  subst hje
  rw [List.take_length]
  have w1 := numsB_size qs 8 H
  generalize numsB qs 8 H = H2 at w1
  repeat' (first | (refine go_Y ?_; intros) | (refine gs_Y ?_ ?_ <;> (intro hgd; try (simp only [Bool.not_true, Bool.not_false] at hgd))) | (refine gc_Y ?_ ?_ <;> intro _) | fail)
  refine ok_loop' (γ := Nat) (fun j ρ L => j ≤ cs.length ∧ Knows ρ [(1, .pointer (some ⟨b1, 0, none⟩)), (3, .string (numsB (cs.take j) 2 H2)), (5, .int .i64 (j : Int))] ∧ L = [pts b1 (.cells [.int .u8 k, .int .u64 tx, .slice pc (cs.map dpV).length cc, .slice pq (qs.map sqV).length cq].toArray 59), A, B] ++ R) (fun j => cs.length - j) 0 ⟨by omega, ⟨rfl, rfl, rfl, trivial⟩, rfl⟩ ?_
  rintro j ρ L ⟨hj, hk, rfl⟩
  refine ok_regs hk ?_
  clear v1
  cases v1 : decide ((j : Int) < ((cs.map dpV).length : Int)) with
  | true =>
    have hj0 : j < cs.length := by rw [decide_eq_true_eq] at v1; omega
    have hx : (cs.map dpV)[j]? = some (dpV cs[j]) := by rw [List.getElem?_map, List.getElem?_eq_getElem hj0]; rfl
    have hjn : j < (cs.map dpV).length := by omega
    obtain ⟨x0, x1⟩ := hcs _ (List.getElem_mem hj0)
    have hwj := u64_eq x0 (by omega : cs[j] ≤ 18446744073709551615)
    have hp := num05_spec (u64N cs[j]) 2 (u64N_lt _) (by omega)
    rw [u64N_eq, hwj] at hp
    have hst := numsB_step hj0 2 H2
    have w2 := numsB_size (cs.take j) 2 H2
    have w3 := numB_size (u64N cs[j]) 2
    have w4 : (cs.take j).length ≤ 12 := by rw [List.length_take]; omega
    refine ok_learn (VwIn.base (VwIn.there (VwIn.here hA)) (by intro e; rw [e] at hjn; simp at hjn)) ?_
    rintro ⟨bu, ou, rfl⟩
    generalize cs[j] = x at hx hp hst w3 x0 x1 hwj
    dsimp only [dpV] at hx
    repeat' (first | (refine go_Y ?_; intros) | (refine gs_Y ?_ ?_ <;> (intro hgd; try (simp only [Bool.not_true, Bool.not_false] at hgd))) | (refine gc_Y ?_ ?_ <;> intro _) | fail)
    refine cl_Y (hp) ?_
    intro _ _
    repeat' (first | (refine go_Y ?_; intros) | (refine gs_Y ?_ ?_ <;> (intro hgd; try (simp only [Bool.not_true, Bool.not_false] at hgd))) | (refine gc_Y ?_ ?_ <;> intro _) | fail)
    rw [← hst]
    refine cont_map (L' := [pts b1 (.cells [.int .u8 k, .int .u64 tx, .slice (some ⟨bu, ou, none⟩) (cs.map dpV).length cc, .slice pq (qs.map sqV).length cq].toArray 59), A, B] ++ R) entD ?_
    refine cont_back (j + 1) ⟨hj0, ⟨rfl, rfl, rfl, trivial⟩, rfl⟩ (by omega)
  | false =>
    have hje : j = cs.length := by rw [decide_eq_false_iff_not] at v1; omega
    subst hje
    rw [List.take_length]
    repeat' (first | (refine go_Y ?_; intros) | (refine gs_Y ?_ ?_ <;> (intro hgd; try (simp only [Bool.not_true, Bool.not_false] at hgd))) | (refine gc_Y ?_ ?_ <;> intro _) | fail)
    (refine rt_Y (y := ()) (hrs := Tryd.results45) (hv := ?_) (hφ := ?_))
    · rfl
    · trivial
set_option maxHeartbeats 8000000 in
theorem put16_spec (tx total nth k t : Int) (u w : Value) (bef aft : List Vl) (A : HProp) (h1 : Vw A 4 u (bef.map valV)) (h2 : Vw A 4 w (aft.map valV)) (hb : ∀ v ∈ bef, v.wf) (ha : ∀ v ∈ aft, v.wf) (hm : mayE total nth ⟨k, t, bef, aft⟩ = true) (t0 : 0 ≤ tx) (t1 : tx ≤ 18446744073709551615) :
    FSpec Tryd.prog 46 [.agg #[.int .u64 tx, .int .i64 total, .int .i64 nth, .int .u8 k, .int .i64 t, u, w]] [A] Unit (fun _ => True) (fun _ => .string (putEB tx total nth ⟨k, t, bef, aft⟩)) (fun _ => [A]) := by
  obtain ⟨k0, k1, b0, b1, tt0, tt1, n0, n1, hrow⟩ := mayE_all hm
  clear hm
  dsimp only at k0 k1 b0 b1 hrow
  have hs := has16_spec k
  refine fspec_lrn (fun R hh s => (VwIn.slice (VwIn.here h1)) hh s) ?_
  rintro ⟨pb, cb, rfl⟩
  refine fspec_lrn (fun R hh s => (VwIn.slice (VwIn.here h2)) hh s) ?_
  rintro ⟨pa, ca, rfl⟩
  have k0' : 0 ≤ k := by omega
  have k1' : k ≤ 255 := by omega
  have hw2 := u64_eq tt0 (by omega : total ≤ 18446744073709551615)
  have hw3 := u64_eq n0 (by omega : nth ≤ 18446744073709551615)
  have hp1 := num05_spec (u64N tx) 8 (u64N_lt tx) (by omega)
  rw [u64N_eq, u64_eq t0 t1] at hp1
  have hp2 := num05_spec (u64N total) 2 (u64N_lt total) (by omega)
  rw [u64N_eq, hw2] at hp2
  have hp3 := num05_spec (u64N nth) 2 (u64N_lt nth) (by omega)
  rw [u64N_eq, hw3] at hp3
  have z1 := numB_size (u64N tx) 8
  have z2 := numB_size (u64N total) 2
  have z3 := numB_size (u64N nth) 2
  have z4 : (numB (u64N tx) 8 ++ numB (u64N total) 2).size = 10 := by rw [ByteArray.size_append, z1, z2]
  have z5 : (numB (u64N tx) 8 ++ numB (u64N total) 2 ++ numB (u64N nth) 2).size = 12 := by rw [ByteArray.size_append, z4, z3]
  have z6 : (⟨#[b8 t, b8 k]⟩ : BA).size = 2 := rfl
  have z7 : (⟨#[b8 (IntKind.u8.wrap t), b8 k]⟩ : BA).size = 2 := rfl
  unfold putEB
  refine spec_intro [122] _ Tryd.func46 rfl Tryd.ntmps46 (by rfl) (fun w0 R => ?_)
  repeat' (first | (refine go_Y ?_; intros) | (refine gs_Y ?_ ?_ <;> (intro hgd; try (simp only [Bool.not_true, Bool.not_false] at hgd))) | (refine gc_Y ?_ ?_ <;> intro _) | fail)
  rename_i b1
  refine ok_meetE (γ := Unit) (fun _ ρ L => Knows ρ [(1, .pointer (some ⟨b1, 0, none⟩)), (3, .string (numB (u64N tx) 8 ++ numB (u64N total) 2 ++ numB (u64N nth) 2 ++ ⟨#[b8 t, b8 k]⟩))] ∧
      L = [pts b1 (.cells [.int .u64 tx, .int .i64 total, .int .i64 nth, .int .u8 k, .int .i64 t, .slice pb (bef.map valV).length cb, .slice pa (aft.map valV).length ca].toArray 53), A] ++ R) ?_ ?_
  · refine ok_draw_node (cv := [122]) 5 [2, 6, 11, 20, 21] [pts b1 (.cells [.int .u64 tx, .int .i64 total, .int .i64 nth, .int .u8 k, .int .i64 t, .slice pb (bef.map valV).length cb, .slice pa (aft.map valV).length ca].toArray 53)] (by kernel_rfl) rfl (by decide +kernel) (by decide +kernel) (by decide +kernel) (takePre takeD) _ rfl ?_
    have d0 : V1s := ⟨.slice none 0 0, rfl⟩
    refine node_have 0 [7, 12, 22, 23] (γ := V1s) (fun ⟨va, hva⟩ ρ L => Knows ρ [(1, .pointer (some ⟨b1, 0, none⟩)), (8, .string (numB (u64N tx) 8)), (12, .string (numB (u64N total) 2)), (17, .string (numB (u64N nth) 2)), (27, .string ⟨#[b8 (IntKind.u8.wrap t), b8 k]⟩)] ∧ L = [pts b1 (.cells [.int .u64 tx, .int .i64 total, .int .i64 nth, .int .u8 k, .int .i64 t, .slice pb (bef.map valV).length cb, .slice pa (aft.map valV).length ca].toArray 53), A] ++ R) ?_ ?_
    · rintro ⟨va, hva⟩ ρ L ⟨hk, rfl⟩
      refine cont_regs hk ?_
      refine cont_node0 (by decide +kernel) ?_
      repeat' (first | (refine go_Y ?_; intros) | fail)
      refine cont_map (L' := [pts b1 (.cells [.int .u64 tx, .int .i64 total, .int .i64 nth, .int .u8 k, .int .i64 t, .slice pb (bef.map valV).length cb, .slice pa (aft.map valV).length ca].toArray 53), A] ++ R) entD ?_
      exact cont_meet () ⟨⟨rfl, by rw [← b8_wrap t]; rfl, trivial⟩, rfl⟩
    intro n2_6_11_20_21
    refine node_have 1 [7, 12, 21, 22, 23] (γ := V1s) (fun ⟨va, hva⟩ ρ L => Knows ρ [(1, .pointer (some ⟨b1, 0, none⟩)), (8, .string (numB (u64N tx) 8)), (12, .string (numB (u64N total) 2)), (17, .string (numB (u64N nth) 2)), (26, va)] ∧ L = [pts b1 (.cells [.int .u64 tx, .int .i64 total, .int .i64 nth, .int .u8 k, .int .i64 t, .slice pb (bef.map valV).length cb, .slice pa (aft.map valV).length ca].toArray 53), A, row 5 1 va [[.int .u8 (IntKind.u8.wrap t)], [.int .u8 k]]] ++ R) ?_ ?_
    · rintro ⟨va, hva⟩ ρ L ⟨hk, rfl⟩
      refine cont_regs hk ?_
      refine cont_node [122] [(21, [21], [7, 12, 22, 23])] rfl (by decide +kernel) ?_
      refine nodeE1 ?_
      · dsimp only [List.length_cons, List.length_nil]
        repeat' (first | (refine go_Y ?_; intros) | fail)
        refine ops_run (s_byte2 rfl rfl (by repeat (first | exact VwIn.here Vw.row | refine VwIn.there ?_)) (u8_lo _).1 (u8_lo _).2 k0' k1' rfl (takePre takeD) ?_)
        repeat' (first | (refine go_Y ?_; intros) | fail)
        refine cont_map (L' := [pts b1 (.cells [.int .u64 tx, .int .i64 total, .int .i64 nth, .int .u8 k, .int .i64 t, .slice pb (bef.map valV).length cb, .slice pa (aft.map valV).length ca].toArray 53), A] ++ R) entD ?_
        exact n2_6_11_20_21 ⟨va, hva⟩ _ _ ⟨⟨rfl, rfl, rfl, rfl, rfl, trivial⟩, rfl⟩
    intro n2_6_11_20
    refine node_have 1 [7, 8, 9, 10, 11, 12, 22, 23] (γ := V1s) (fun ⟨va, hva⟩ ρ L => Knows ρ [(1, .pointer (some ⟨b1, 0, none⟩)), (8, .string (numB (u64N tx) 8)), (12, .string (numB (u64N total) 2)), (27, .string ⟨#[b8 (IntKind.u8.wrap t), b8 k]⟩)] ∧ L = [pts b1 (.cells [.int .u64 tx, .int .i64 total, .int .i64 nth, .int .u8 k, .int .i64 t, .slice pb (bef.map valV).length cb, .slice pa (aft.map valV).length ca].toArray 53), A] ++ R) ?_ ?_
    · rintro ⟨va, hva⟩ ρ L ⟨hk, rfl⟩
      refine cont_regs hk ?_
      refine cont_node [122] [(11, [8, 9, 10, 11], [7, 12, 22, 23])] rfl (by decide +kernel) ?_
      refine nodeE1 ?_
      · dsimp only [List.length_cons, List.length_nil]
        repeat' (first | (refine go_Y ?_; intros) | fail)
        refine clN_Y (hp3) ?_
        intro _ _
        repeat' (first | (refine go_Y ?_; intros) | fail)
        refine cont_map (L' := [pts b1 (.cells [.int .u64 tx, .int .i64 total, .int .i64 nth, .int .u8 k, .int .i64 t, .slice pb (bef.map valV).length cb, .slice pa (aft.map valV).length ca].toArray 53), A] ++ R) entD ?_
        exact n2_6_11_20_21 ⟨va, hva⟩ _ _ ⟨⟨rfl, rfl, rfl, rfl, rfl, trivial⟩, rfl⟩
    intro n2_6_20_21
    refine node_have 2 [7, 12, 13, 14, 15, 16, 17, 18, 19, 20, 21, 22, 23] (γ := V1s) (fun ⟨va, hva⟩ ρ L => Knows ρ [(1, .pointer (some ⟨b1, 0, none⟩)), (8, .string (numB (u64N tx) 8)), (12, .string (numB (u64N total) 2)), (17, .string (numB (u64N nth) 2))] ∧ L = [pts b1 (.cells [.int .u64 tx, .int .i64 total, .int .i64 nth, .int .u8 k, .int .i64 t, .slice pb (bef.map valV).length cb, .slice pa (aft.map valV).length ca].toArray 53), A] ++ R) ?_ ?_
    · rintro ⟨va, hva⟩ ρ L ⟨hk, rfl⟩
      refine cont_regs hk ?_
      refine cont_node [122] [(20, [13, 14, 15, 16, 17, 18, 19, 20], [7, 12, 21, 22, 23])] rfl (by decide +kernel) ?_
      refine nodeE1 ?_
      · dsimp only [List.length_cons, List.length_nil]
        repeat' (first | (refine go_Y ?_; intros) | fail)
        rename_i w hw
        refine cont_map (L' := [pts b1 (.cells [.int .u64 tx, .int .i64 total, .int .i64 nth, .int .u8 k, .int .i64 t, .slice pb (bef.map valV).length cb, .slice pa (aft.map valV).length ca].toArray 53), A, row 5 1 w [[.int .u8 (IntKind.u8.wrap t)], [.int .u8 k]]] ++ R) entD ?_
        exact n2_6_11_20 ⟨w, hw⟩ _ _ ⟨⟨rfl, rfl, rfl, rfl, rfl, trivial⟩, rfl⟩
    intro n2_6_11
    refine node_have 2 [7, 8, 9, 10, 11, 12, 21, 22, 23] (γ := V1s) (fun ⟨va, hva⟩ ρ L => Knows ρ [(1, .pointer (some ⟨b1, 0, none⟩)), (8, .string (numB (u64N tx) 8)), (12, .string (numB (u64N total) 2)), (26, va)] ∧ L = [pts b1 (.cells [.int .u64 tx, .int .i64 total, .int .i64 nth, .int .u8 k, .int .i64 t, .slice pb (bef.map valV).length cb, .slice pa (aft.map valV).length ca].toArray 53), A, row 5 1 va [[.int .u8 (IntKind.u8.wrap t)], [.int .u8 k]]] ++ R) ?_ ?_
    · rintro ⟨va, hva⟩ ρ L ⟨hk, rfl⟩
      refine cont_regs hk ?_
      refine cont_node [122] [(11, [8, 9, 10, 11], [7, 12, 21, 22, 23]), (21, [21], [7, 8, 9, 10, 11, 12, 22, 23])] rfl (by decide +kernel) ?_
      refine nodeE2 ?_ ?_
      · dsimp only [List.length_cons, List.length_nil]
        repeat' (first | (refine go_Y ?_; intros) | fail)
        refine clN_Y (hp3) ?_
        intro _ _
        repeat' (first | (refine go_Y ?_; intros) | fail)
        refine cont_map (L' := [pts b1 (.cells [.int .u64 tx, .int .i64 total, .int .i64 nth, .int .u8 k, .int .i64 t, .slice pb (bef.map valV).length cb, .slice pa (aft.map valV).length ca].toArray 53), A, row 5 1 va [[.int .u8 (IntKind.u8.wrap t)], [.int .u8 k]]] ++ R) entD ?_
        exact n2_6_11_20 ⟨va, hva⟩ _ _ ⟨⟨rfl, rfl, rfl, rfl, rfl, trivial⟩, rfl⟩
      · dsimp only [List.length_cons, List.length_nil]
        repeat' (first | (refine go_Y ?_; intros) | fail)
        refine ops_run (s_byte2 rfl rfl (by repeat (first | exact VwIn.here Vw.row | refine VwIn.there ?_)) (u8_lo _).1 (u8_lo _).2 k0' k1' rfl (takePre takeD) ?_)
        repeat' (first | (refine go_Y ?_; intros) | fail)
        refine cont_map (L' := [pts b1 (.cells [.int .u64 tx, .int .i64 total, .int .i64 nth, .int .u8 k, .int .i64 t, .slice pb (bef.map valV).length cb, .slice pa (aft.map valV).length ca].toArray 53), A] ++ R) entD ?_
        exact n2_6_20_21 ⟨va, hva⟩ _ _ ⟨⟨rfl, rfl, rfl, rfl, trivial⟩, rfl⟩
    intro n2_6_20
    refine node_have 2 [3, 4, 5, 6, 7, 8, 9, 10, 11, 12, 22, 23] (γ := V1s) (fun ⟨va, hva⟩ ρ L => Knows ρ [(1, .pointer (some ⟨b1, 0, none⟩)), (8, .string (numB (u64N tx) 8)), (27, .string ⟨#[b8 (IntKind.u8.wrap t), b8 k]⟩)] ∧ L = [pts b1 (.cells [.int .u64 tx, .int .i64 total, .int .i64 nth, .int .u8 k, .int .i64 t, .slice pb (bef.map valV).length cb, .slice pa (aft.map valV).length ca].toArray 53), A] ++ R) ?_ ?_
    · rintro ⟨va, hva⟩ ρ L ⟨hk, rfl⟩
      refine cont_regs hk ?_
      refine cont_node [122] [(6, [3, 4, 5, 6], [7, 8, 9, 10, 11, 12, 22, 23])] rfl (by decide +kernel) ?_
      refine nodeE1 ?_
      · dsimp only [List.length_cons, List.length_nil]
        repeat' (first | (refine go_Y ?_; intros) | fail)
        refine clN_Y (hp2) ?_
        intro _ _
        repeat' (first | (refine go_Y ?_; intros) | fail)
        refine cont_map (L' := [pts b1 (.cells [.int .u64 tx, .int .i64 total, .int .i64 nth, .int .u8 k, .int .i64 t, .slice pb (bef.map valV).length cb, .slice pa (aft.map valV).length ca].toArray 53), A] ++ R) entD ?_
        exact n2_6_20_21 ⟨va, hva⟩ _ _ ⟨⟨rfl, rfl, rfl, rfl, trivial⟩, rfl⟩
    intro n2_20_21
    refine node_have 3 [7, 8, 9, 10, 11, 12, 13, 14, 15, 16, 17, 18, 19, 20, 21, 22, 23] (γ := V1s) (fun ⟨va, hva⟩ ρ L => Knows ρ [(1, .pointer (some ⟨b1, 0, none⟩)), (8, .string (numB (u64N tx) 8)), (12, .string (numB (u64N total) 2))] ∧ L = [pts b1 (.cells [.int .u64 tx, .int .i64 total, .int .i64 nth, .int .u8 k, .int .i64 t, .slice pb (bef.map valV).length cb, .slice pa (aft.map valV).length ca].toArray 53), A] ++ R) ?_ ?_
    · rintro ⟨va, hva⟩ ρ L ⟨hk, rfl⟩
      refine cont_regs hk ?_
      refine cont_node [122] [(11, [8, 9, 10, 11], [7, 12, 13, 14, 15, 16, 17, 18, 19, 20, 21, 22, 23]), (20, [13, 14, 15, 16, 17, 18, 19, 20], [7, 8, 9, 10, 11, 12, 21, 22, 23])] rfl (by decide +kernel) ?_
      refine nodeE2 ?_ ?_
      · dsimp only [List.length_cons, List.length_nil]
        repeat' (first | (refine go_Y ?_; intros) | fail)
        refine clN_Y (hp3) ?_
        intro _ _
        repeat' (first | (refine go_Y ?_; intros) | fail)
        refine cont_map (L' := [pts b1 (.cells [.int .u64 tx, .int .i64 total, .int .i64 nth, .int .u8 k, .int .i64 t, .slice pb (bef.map valV).length cb, .slice pa (aft.map valV).length ca].toArray 53), A] ++ R) entD ?_
        exact n2_6_11 ⟨va, hva⟩ _ _ ⟨⟨rfl, rfl, rfl, rfl, trivial⟩, rfl⟩
      · dsimp only [List.length_cons, List.length_nil]
        repeat' (first | (refine go_Y ?_; intros) | fail)
        rename_i w hw
        refine cont_map (L' := [pts b1 (.cells [.int .u64 tx, .int .i64 total, .int .i64 nth, .int .u8 k, .int .i64 t, .slice pb (bef.map valV).length cb, .slice pa (aft.map valV).length ca].toArray 53), A, row 5 1 w [[.int .u8 (IntKind.u8.wrap t)], [.int .u8 k]]] ++ R) entD ?_
        exact n2_6_20 ⟨w, hw⟩ _ _ ⟨⟨rfl, rfl, rfl, rfl, trivial⟩, rfl⟩
    intro n2_6
    refine node_have 3 [3, 4, 5, 6, 7, 8, 9, 10, 11, 12, 21, 22, 23] (γ := V1s) (fun ⟨va, hva⟩ ρ L => Knows ρ [(1, .pointer (some ⟨b1, 0, none⟩)), (8, .string (numB (u64N tx) 8)), (26, va)] ∧ L = [pts b1 (.cells [.int .u64 tx, .int .i64 total, .int .i64 nth, .int .u8 k, .int .i64 t, .slice pb (bef.map valV).length cb, .slice pa (aft.map valV).length ca].toArray 53), A, row 5 1 va [[.int .u8 (IntKind.u8.wrap t)], [.int .u8 k]]] ++ R) ?_ ?_
    · rintro ⟨va, hva⟩ ρ L ⟨hk, rfl⟩
      refine cont_regs hk ?_
      refine cont_node [122] [(6, [3, 4, 5, 6], [7, 8, 9, 10, 11, 12, 21, 22, 23]), (21, [21], [3, 4, 5, 6, 7, 8, 9, 10, 11, 12, 22, 23])] rfl (by decide +kernel) ?_
      refine nodeE2 ?_ ?_
      · dsimp only [List.length_cons, List.length_nil]
        repeat' (first | (refine go_Y ?_; intros) | fail)
        refine clN_Y (hp2) ?_
        intro _ _
        repeat' (first | (refine go_Y ?_; intros) | fail)
        refine cont_map (L' := [pts b1 (.cells [.int .u64 tx, .int .i64 total, .int .i64 nth, .int .u8 k, .int .i64 t, .slice pb (bef.map valV).length cb, .slice pa (aft.map valV).length ca].toArray 53), A, row 5 1 va [[.int .u8 (IntKind.u8.wrap t)], [.int .u8 k]]] ++ R) entD ?_
        exact n2_6_20 ⟨va, hva⟩ _ _ ⟨⟨rfl, rfl, rfl, rfl, trivial⟩, rfl⟩
      · dsimp only [List.length_cons, List.length_nil]
        repeat' (first | (refine go_Y ?_; intros) | fail)
        refine ops_run (s_byte2 rfl rfl (by repeat (first | exact VwIn.here Vw.row | refine VwIn.there ?_)) (u8_lo _).1 (u8_lo _).2 k0' k1' rfl (takePre takeD) ?_)
        repeat' (first | (refine go_Y ?_; intros) | fail)
        refine cont_map (L' := [pts b1 (.cells [.int .u64 tx, .int .i64 total, .int .i64 nth, .int .u8 k, .int .i64 t, .slice pb (bef.map valV).length cb, .slice pa (aft.map valV).length ca].toArray 53), A] ++ R) entD ?_
        exact n2_20_21 ⟨va, hva⟩ _ _ ⟨⟨rfl, rfl, rfl, trivial⟩, rfl⟩
    intro n2_20
    refine node_have 3 [0, 1, 2, 3, 4, 5, 6, 7, 8, 9, 10, 11, 12, 22, 23] (γ := V1s) (fun ⟨va, hva⟩ ρ L => Knows ρ [(1, .pointer (some ⟨b1, 0, none⟩)), (27, .string ⟨#[b8 (IntKind.u8.wrap t), b8 k]⟩)] ∧ L = [pts b1 (.cells [.int .u64 tx, .int .i64 total, .int .i64 nth, .int .u8 k, .int .i64 t, .slice pb (bef.map valV).length cb, .slice pa (aft.map valV).length ca].toArray 53), A] ++ R) ?_ ?_
    · rintro ⟨va, hva⟩ ρ L ⟨hk, rfl⟩
      refine cont_regs hk ?_
      refine cont_node [122] [(2, [0, 1, 2], [3, 4, 5, 6, 7, 8, 9, 10, 11, 12, 22, 23])] rfl (by decide +kernel) ?_
      refine nodeE1 ?_
      · dsimp only [List.length_cons, List.length_nil]
        repeat' (first | (refine go_Y ?_; intros) | fail)
        refine clN_Y (hp1) ?_
        intro _ _
        repeat' (first | (refine go_Y ?_; intros) | fail)
        refine cont_map (L' := [pts b1 (.cells [.int .u64 tx, .int .i64 total, .int .i64 nth, .int .u8 k, .int .i64 t, .slice pb (bef.map valV).length cb, .slice pa (aft.map valV).length ca].toArray 53), A] ++ R) entD ?_
        exact n2_20_21 ⟨va, hva⟩ _ _ ⟨⟨rfl, rfl, rfl, trivial⟩, rfl⟩
    intro n20_21
    refine node_have 4 [3, 4, 5, 6, 7, 8, 9, 10, 11, 12, 13, 14, 15, 16, 17, 18, 19, 20, 21, 22, 23] (γ := V1s) (fun ⟨va, hva⟩ ρ L => Knows ρ [(1, .pointer (some ⟨b1, 0, none⟩)), (8, .string (numB (u64N tx) 8))] ∧ L = [pts b1 (.cells [.int .u64 tx, .int .i64 total, .int .i64 nth, .int .u8 k, .int .i64 t, .slice pb (bef.map valV).length cb, .slice pa (aft.map valV).length ca].toArray 53), A] ++ R) ?_ ?_
    · rintro ⟨va, hva⟩ ρ L ⟨hk, rfl⟩
      refine cont_regs hk ?_
      refine cont_node [122] [(6, [3, 4, 5, 6], [7, 8, 9, 10, 11, 12, 13, 14, 15, 16, 17, 18, 19, 20, 21, 22, 23]), (20, [13, 14, 15, 16, 17, 18, 19, 20], [3, 4, 5, 6, 7, 8, 9, 10, 11, 12, 21, 22, 23])] rfl (by decide +kernel) ?_
      refine nodeE2 ?_ ?_
      · dsimp only [List.length_cons, List.length_nil]
        repeat' (first | (refine go_Y ?_; intros) | fail)
        refine clN_Y (hp2) ?_
        intro _ _
        repeat' (first | (refine go_Y ?_; intros) | fail)
        refine cont_map (L' := [pts b1 (.cells [.int .u64 tx, .int .i64 total, .int .i64 nth, .int .u8 k, .int .i64 t, .slice pb (bef.map valV).length cb, .slice pa (aft.map valV).length ca].toArray 53), A] ++ R) entD ?_
        exact n2_6 ⟨va, hva⟩ _ _ ⟨⟨rfl, rfl, rfl, trivial⟩, rfl⟩
      · dsimp only [List.length_cons, List.length_nil]
        repeat' (first | (refine go_Y ?_; intros) | fail)
        rename_i w hw
        refine cont_map (L' := [pts b1 (.cells [.int .u64 tx, .int .i64 total, .int .i64 nth, .int .u8 k, .int .i64 t, .slice pb (bef.map valV).length cb, .slice pa (aft.map valV).length ca].toArray 53), A, row 5 1 w [[.int .u8 (IntKind.u8.wrap t)], [.int .u8 k]]] ++ R) entD ?_
        exact n2_20 ⟨w, hw⟩ _ _ ⟨⟨rfl, rfl, rfl, trivial⟩, rfl⟩
    intro n2
    refine node_have 4 [0, 1, 2, 3, 4, 5, 6, 7, 8, 9, 10, 11, 12, 21, 22, 23] (γ := V1s) (fun ⟨va, hva⟩ ρ L => Knows ρ [(1, .pointer (some ⟨b1, 0, none⟩)), (26, va)] ∧ L = [pts b1 (.cells [.int .u64 tx, .int .i64 total, .int .i64 nth, .int .u8 k, .int .i64 t, .slice pb (bef.map valV).length cb, .slice pa (aft.map valV).length ca].toArray 53), A, row 5 1 va [[.int .u8 (IntKind.u8.wrap t)], [.int .u8 k]]] ++ R) ?_ ?_
    · rintro ⟨va, hva⟩ ρ L ⟨hk, rfl⟩
      refine cont_regs hk ?_
      refine cont_node [122] [(2, [0, 1, 2], [3, 4, 5, 6, 7, 8, 9, 10, 11, 12, 21, 22, 23]), (21, [21], [0, 1, 2, 3, 4, 5, 6, 7, 8, 9, 10, 11, 12, 22, 23])] rfl (by decide +kernel) ?_
      refine nodeE2 ?_ ?_
      · dsimp only [List.length_cons, List.length_nil]
        repeat' (first | (refine go_Y ?_; intros) | fail)
        refine clN_Y (hp1) ?_
        intro _ _
        repeat' (first | (refine go_Y ?_; intros) | fail)
        refine cont_map (L' := [pts b1 (.cells [.int .u64 tx, .int .i64 total, .int .i64 nth, .int .u8 k, .int .i64 t, .slice pb (bef.map valV).length cb, .slice pa (aft.map valV).length ca].toArray 53), A, row 5 1 va [[.int .u8 (IntKind.u8.wrap t)], [.int .u8 k]]] ++ R) entD ?_
        exact n2_20 ⟨va, hva⟩ _ _ ⟨⟨rfl, rfl, rfl, trivial⟩, rfl⟩
      · dsimp only [List.length_cons, List.length_nil]
        repeat' (first | (refine go_Y ?_; intros) | fail)
        refine ops_run (s_byte2 rfl rfl (by repeat (first | exact VwIn.here Vw.row | refine VwIn.there ?_)) (u8_lo _).1 (u8_lo _).2 k0' k1' rfl (takePre takeD) ?_)
        repeat' (first | (refine go_Y ?_; intros) | fail)
        refine cont_map (L' := [pts b1 (.cells [.int .u64 tx, .int .i64 total, .int .i64 nth, .int .u8 k, .int .i64 t, .slice pb (bef.map valV).length cb, .slice pa (aft.map valV).length ca].toArray 53), A] ++ R) entD ?_
        exact n20_21 ⟨va, hva⟩ _ _ ⟨⟨rfl, rfl, trivial⟩, rfl⟩
    intro n20
    refine cont_node [122] [(2, [0, 1, 2], [3, 4, 5, 6, 7, 8, 9, 10, 11, 12, 13, 14, 15, 16, 17, 18, 19, 20, 21, 22, 23]), (20, [13, 14, 15, 16, 17, 18, 19, 20], [0, 1, 2, 3, 4, 5, 6, 7, 8, 9, 10, 11, 12, 21, 22, 23])] rfl (by decide +kernel) ?_
    refine nodeE2 ?_ ?_
    · dsimp only [List.length_cons, List.length_nil]
      repeat' (first | (refine go_Y ?_; intros) | fail)
      refine clN_Y (hp1) ?_
      intro _ _
      repeat' (first | (refine go_Y ?_; intros) | fail)
      refine cont_map (L' := [pts b1 (.cells [.int .u64 tx, .int .i64 total, .int .i64 nth, .int .u8 k, .int .i64 t, .slice pb (bef.map valV).length cb, .slice pa (aft.map valV).length ca].toArray 53), A] ++ R) entD ?_
      exact n2 d0 _ _ ⟨⟨rfl, rfl, trivial⟩, rfl⟩
    · dsimp only [List.length_cons, List.length_nil]
      repeat' (first | (refine go_Y ?_; intros) | fail)
      rename_i w hw
      refine cont_map (L' := [pts b1 (.cells [.int .u64 tx, .int .i64 total, .int .i64 nth, .int .u8 k, .int .i64 t, .slice pb (bef.map valV).length cb, .slice pa (aft.map valV).length ca].toArray 53), A, row 5 1 w [[.int .u8 (IntKind.u8.wrap t)], [.int .u8 k]]] ++ R) entD ?_
      exact n20 ⟨w, hw⟩ _ _ ⟨⟨rfl, rfl, trivial⟩, rfl⟩
  rintro _ ρ L ⟨hk, rfl⟩
  refine cont_regs hk ?_
  have hH : (numB (u64N tx) 8 ++ numB (u64N total) 2 ++ numB (u64N nth) 2 ++ (⟨#[b8 t, b8 k]⟩ : BA)).size = 14 := by rw [ByteArray.size_append, z5, z6]
  generalize numB (u64N tx) 8 ++ numB (u64N total) 2 ++ numB (u64N nth) 2 ++ (⟨#[b8 t, b8 k]⟩ : BA) = H at hH
  clear z1 z2 z3 z4 z5 z6 z7 hp1 hp2 hp3
  have h3 : k = 1 ∨ k = 4 ∨ k = 3 ∨ k = 2 := by omega
  unfold hasE at hrow ⊢
  dsimp only at hrow ⊢
  rcases h3 with rfl | rfl | rfl | rfl
  · rw [if_pos (.inl rfl)] at hrow ⊢
    have ra := hrow aft (by simp)
    have ya := putRB_size ra
    have ha5 := putRow05_spec (.slice pa (aft.map valV).length ca) A aft h2 ha ra
    rw [show (decide ((1 : Int) = 2) || decide ((1 : Int) = 3)) = false from rfl, show (!decide ((1 : Int) = 3)) = true from rfl] at hs
    repeat' (first | (refine go_Y ?_; intros) | (refine gs_Y ?_ ?_ <;> (intro hgd; try (simp only [Bool.not_true, Bool.not_false] at hgd))) | (refine gc_Y ?_ ?_ <;> intro _) | fail)
    refine cl_Y (hs) ?_
    intro _ _
    repeat' (first | (refine go_Y ?_; intros) | (refine gs_Y ?_ ?_ <;> (intro hgd; try (simp only [Bool.not_true, Bool.not_false] at hgd))) | (refine gc_Y ?_ ?_ <;> intro _) | fail)
    refine cl_Y (ha5) ?_
    intro _ _
    repeat' (first | (refine go_Y ?_; intros) | (refine gs_Y ?_ ?_ <;> (intro hgd; try (simp only [Bool.not_true, Bool.not_false] at hgd))) | (refine gc_Y ?_ ?_ <;> intro _) | fail)
    (refine rt_Y (y := ()) (hrs := Tryd.results46) (hv := ?_) (hφ := ?_))
    · rfl
    · trivial
  · rw [if_pos (.inr rfl)] at hrow ⊢
    have ra := hrow aft (by simp)
    have ya := putRB_size ra
    have ha5 := putRow05_spec (.slice pa (aft.map valV).length ca) A aft h2 ha ra
    rw [show (decide ((4 : Int) = 2) || decide ((4 : Int) = 3)) = false from rfl, show (!decide ((4 : Int) = 3)) = true from rfl] at hs
    repeat' (first | (refine go_Y ?_; intros) | (refine gs_Y ?_ ?_ <;> (intro hgd; try (simp only [Bool.not_true, Bool.not_false] at hgd))) | (refine gc_Y ?_ ?_ <;> intro _) | fail)
    refine cl_Y (hs) ?_
    intro _ _
    repeat' (first | (refine go_Y ?_; intros) | (refine gs_Y ?_ ?_ <;> (intro hgd; try (simp only [Bool.not_true, Bool.not_false] at hgd))) | (refine gc_Y ?_ ?_ <;> intro _) | fail)
    refine cl_Y (ha5) ?_
    intro _ _
    repeat' (first | (refine go_Y ?_; intros) | (refine gs_Y ?_ ?_ <;> (intro hgd; try (simp only [Bool.not_true, Bool.not_false] at hgd))) | (refine gc_Y ?_ ?_ <;> intro _) | fail)
    (refine rt_Y (y := ()) (hrs := Tryd.results46) (hv := ?_) (hφ := ?_))
    · rfl
    · trivial
  · rw [if_neg (by decide), if_pos rfl] at hrow ⊢
    have rb := hrow bef (by simp)
    have yb := putRB_size rb
    have hb5 := putRow05_spec (.slice pb (bef.map valV).length cb) A bef h1 hb rb
    rw [show (decide ((3 : Int) = 2) || decide ((3 : Int) = 3)) = true from rfl, show (!decide ((3 : Int) = 3)) = false from rfl] at hs
    repeat' (first | (refine go_Y ?_; intros) | (refine gs_Y ?_ ?_ <;> (intro hgd; try (simp only [Bool.not_true, Bool.not_false] at hgd))) | (refine gc_Y ?_ ?_ <;> intro _) | fail)
    refine cl_Y (hs) ?_
    intro _ _
    repeat' (first | (refine go_Y ?_; intros) | (refine gs_Y ?_ ?_ <;> (intro hgd; try (simp only [Bool.not_true, Bool.not_false] at hgd))) | (refine gc_Y ?_ ?_ <;> intro _) | fail)
    refine cl_Y (hb5) ?_
    intro _ _
    repeat' (first | (refine go_Y ?_; intros) | (refine gs_Y ?_ ?_ <;> (intro hgd; try (simp only [Bool.not_true, Bool.not_false] at hgd))) | (refine gc_Y ?_ ?_ <;> intro _) | fail)
    (refine rt_Y (y := ()) (hrs := Tryd.results46) (hv := ?_) (hφ := ?_))
    · rfl
    · trivial
  · rw [if_neg (by decide), if_neg (by decide)] at hrow ⊢
    have rb := hrow bef (by simp)
    have ra := hrow aft (by simp)
    have yb := putRB_size rb
    have ya := putRB_size ra
    have y3 : (H ++ putRB bef).size = 14 + (putRB bef).size := by rw [ByteArray.size_append, hH]
    have hb5 := putRow05_spec (.slice pb (bef.map valV).length cb) A bef h1 hb rb
    have ha5 := putRow05_spec (.slice pa (aft.map valV).length ca) A aft h2 ha ra
    rw [show (decide ((2 : Int) = 2) || decide ((2 : Int) = 3)) = true from rfl, show (!decide ((2 : Int) = 3)) = true from rfl] at hs
    repeat' (first | (refine go_Y ?_; intros) | (refine gs_Y ?_ ?_ <;> (intro hgd; try (simp only [Bool.not_true, Bool.not_false] at hgd))) | (refine gc_Y ?_ ?_ <;> intro _) | fail)
    refine cl_Y (hs) ?_
    intro _ _
    repeat' (first | (refine go_Y ?_; intros) | (refine gs_Y ?_ ?_ <;> (intro hgd; try (simp only [Bool.not_true, Bool.not_false] at hgd))) | (refine gc_Y ?_ ?_ <;> intro _) | fail)
    refine cl_Y (hb5) ?_
    intro _ _
    repeat' (first | (refine go_Y ?_; intros) | (refine gs_Y ?_ ?_ <;> (intro hgd; try (simp only [Bool.not_true, Bool.not_false] at hgd))) | (refine gc_Y ?_ ?_ <;> intro _) | fail)
    refine cl_Y (ha5) ?_
    intro _ _
    repeat' (first | (refine go_Y ?_; intros) | (refine gs_Y ?_ ?_ <;> (intro hgd; try (simp only [Bool.not_true, Bool.not_false] at hgd))) | (refine gc_Y ?_ ?_ <;> intro _) | fail)
    (refine rt_Y (y := ()) (hrs := Tryd.results46) (hv := ?_) (hφ := ?_))
    · rfl
    · trivial
end Go.Proofs.YtphaegcoldpclaaDoor
