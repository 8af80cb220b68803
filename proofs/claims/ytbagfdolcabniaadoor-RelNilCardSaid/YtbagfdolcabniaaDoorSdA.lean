/- The walks of package value: Check; real.Canon; schema.fits. -/
import Derived.Test.YtbagfdolcabniaaDoorSlv
import Derived.Test.YtbagfdolcabniaaDoorSdP
import Derived.Test.YtbagfdolcabniaaDoorY
import Derived.Test.YtbagfdolcabniaaDoorFwY
-- @DEFS Y
set_option linter.unusedSimpArgs false
set_option linter.unusedVariables false
set_option maxRecDepth 100000
namespace Go.Proofs.YtbagfdolcabniaaDoor
open Go Go.Fx Go.Proofs Go.Pl Go.RowKit

/-- The tables of utf8 are there. -/
def UT (A : HProp) : Prop := ∀ w : World, (∃ h : Frag, h.le (fun b => w.heap[b]?) ∧ A h) → Lib.Utf8Tabs (Tryd.laysValid_ren.g 3) (Tryd.laysValid_ren.g 4) w
theorem sats_below {w0 w w' : World} {L : List HProp} (hs : Sats w0 w L) (hB : Below w.heap.size w w') : Sats w0 w' L := by
  refine ⟨hB.os.trans hs.os, hB.tape.trans hs.tape, hB.output.trans hs.output, Nat.le_trans hs.size hB.size, hs.heap.mono ?_⟩
  intro b o hb
  have hlt := (Array.getElem?_eq_some_iff.1 hb).1
  show w'.heap[b]? = some o
  rw [hB.block b hlt]; exact hb
theorem valid_spec (s : BA) (A : HProp) (hA : UT A) (hs : s.size ≤ 9223372036854775807) : FSpec Tryd.prog 141 [.string s] [A] Unit (fun _ => True) (fun _ => .bool (validS s)) (fun _ => [A]) := by
  intro w0 w R hsat
  have hT := hA w (Sats.head hsat)
  refine (Any.utf8_ValidString Tryd.laysValid s w hs hT).mono ?_
  rintro e w' ⟨rfl, hB⟩
  exact ⟨(), trivial, rfl, sats_below hsat hB⟩
instance : FromBits Tryd.prog 162 := ⟨fun n w => by
  have h := run_callFunc_extern (P := Tryd.prog) (f := 162) (fn := Tryd.f162) (e := Extern.MathFloatBits.float64frombits) (by kernel_rfl) (by kernel_rfl) (by kernel_rfl) (by kernel_rfl) (by kernel_rfl) #[.int .u64 n] w
  rw [h]; rfl⟩
theorem canon_spec (n : Int) : FSpec Tryd.prog 140 [.int .u64 n] [] Unit (fun _ => True) (fun _ => .int .u64 (canonR n)) (fun _ => []) := by
  unfold canonR nanB
  cases hf : Op.floatEq .f64 n.toNat n.toNat with
  | true =>
    have hg : (!Op.floatEq .f64 n.toNat n.toNat) = false := by rw [hf]; rfl
    rw [if_neg (by simp)]
    refine spec_intro [] _ Tryd.func140 rfl Tryd.ntmps140 (by rfl) (fun w0 R => ?_)
    repeat' (first | (refine go_Y ?_; intros) | (refine gs_Y ?_ ?_ <;> (intro hgd; try (simp only [Bool.not_true, Bool.not_false] at hgd))) | (refine gc_Y ?_ ?_ <;> intro _) | fail)
    (refine rt_Y (y := ()) (hrs := Tryd.results140) (hv := ?_) (hφ := ?_))
    · rfl
    · trivial
  | false =>
    have hg : (!Op.floatEq .f64 n.toNat n.toNat) = true := by rw [hf]; rfl
    rw [if_pos (by simp)]
    refine spec_intro [] _ Tryd.func140 rfl Tryd.ntmps140 (by rfl) (fun w0 R => ?_)
    repeat' (first | (refine go_Y ?_; intros) | (refine gs_Y ?_ ?_ <;> (intro hgd; try (simp only [Bool.not_true, Bool.not_false] at hgd))) | (refine gc_Y ?_ ?_ <;> intro _) | fail)
    (refine rt_Y (y := ()) (hrs := Tryd.results140) (hv := ?_) (hφ := ?_))
    · rfl
    · trivial
theorem eqS_decide (a b : BA) : (a.toList == b.toList) = decide (a = b) := by
  rw [Bool.eq_iff_iff]; simp only [decide_eq_true_eq]; exact eqS_iff
theorem eqL_valV (a b : Vl) : eqL [TypeDesc.int .u8, TypeDesc.int .i64, TypeDesc.int .u64, TypeDesc.string] (valV a) (valV b) = decide (a = b) := by
  obtain ⟨k, i, r, s⟩ := a
  obtain ⟨k', i', r', s'⟩ := b
  simp only [valV, eqL, eqD, eqS_decide, Bool.and_true]
  rw [Bool.eq_iff_iff]
  simp only [Bool.and_eq_true, beq_iff_eq, decide_eq_true_eq, Vl.ext_iff']
instance valEq : SEq Tryd.prog 31 [.int .u8, .int .i64, .int .u64, .string] := ⟨by kernel_rfl⟩
set_option maxHeartbeats 2000000 in
theorem vCheck_spec (v : Vl) (A : HProp) (hA : UT A) (hw : v.wf) : FSpec Tryd.prog 124 [.agg (valV v).toArray] [A] Unit (fun _ => True) (fun _ => .int .i64 (if checkV v then 0 else 2)) (fun _ => [A]) := by
  obtain ⟨k, i, r, s⟩ := v
  unfold checkV wantV
  dsimp only [valV]
  cases o0 : decide (k = 0) with
  | true =>
    rw [if_pos (of_decide_eq_true o0)]
    dsimp only
    have e0 : k = 0 := of_decide_eq_true o0
    subst e0
    have he := eqL_valV ⟨0, i, r, s⟩ ⟨0, 0, 0, ⟨#[]⟩⟩
    dsimp only [valV] at he
    cases hq : nilB BinOp.neq (eqL [TypeDesc.int .u8, TypeDesc.int .i64, TypeDesc.int .u64, TypeDesc.string] [Value.int .u8 0, Value.int .i64 i, Value.int .u64 r, Value.string s] [Value.int .u8 0, Value.int .i64 0, Value.int .u64 0, Value.string ⟨#[]⟩]) with
    | true =>
      refine spec_intro [] _ Tryd.func124 rfl Tryd.ntmps124 (by rfl) (fun w0 R => ?_)
      repeat' (first | (refine go_Y ?_; intros) | (refine gs_Y ?_ ?_ <;> (intro hgd; try (simp only [Bool.not_true, Bool.not_false] at hgd))) | (refine gc_Y ?_ ?_ <;> intro _) | fail)
      (refine rt_Y (y := ()) (hrs := Tryd.results124) (hv := ?_) (hφ := ?_))
      · have hd : decide ((⟨0, i, r, s⟩ : Vl) = ⟨0, 0, 0, ⟨#[]⟩⟩) = false := by rw [he] at hq; simpa only [nilB, Bool.not_eq_true', Bool.not_eq_false'] using hq
        show Value.int .i64 2 = Value.int .i64 (if (decide ((⟨0, i, r, s⟩ : Vl) = ⟨0, 0, 0, ⟨#[]⟩⟩) && decide (s.size ≤ 100)) = true then 0 else 2)
        rw [hd]; rfl
      · trivial
    | false =>
      cases hz : decide ((100 : Int) < (s.size : Int)) with
      | true =>
        refine spec_intro [] _ Tryd.func124 rfl Tryd.ntmps124 (by rfl) (fun w0 R => ?_)
        repeat' (first | (refine go_Y ?_; intros) | (refine gs_Y ?_ ?_ <;> (intro hgd; try (simp only [Bool.not_true, Bool.not_false] at hgd))) | (refine gc_Y ?_ ?_ <;> intro _) | fail)
        (refine rt_Y (y := ()) (hrs := Tryd.results124) (hv := ?_) (hφ := ?_))
        · have hd : decide ((⟨0, i, r, s⟩ : Vl) = ⟨0, 0, 0, ⟨#[]⟩⟩) = true := by rw [he] at hq; simpa only [nilB, Bool.not_eq_true', Bool.not_eq_false'] using hq
          show Value.int .i64 2 = Value.int .i64 (if (decide ((⟨0, i, r, s⟩ : Vl) = ⟨0, 0, 0, ⟨#[]⟩⟩) && decide (s.size ≤ 100)) = true then 0 else 2)
          have hz' : decide (s.size ≤ 100) = false := by simp at hz ⊢; omega
          rw [hd, hz']; rfl
        · trivial
      | false =>
        refine spec_intro [] _ Tryd.func124 rfl Tryd.ntmps124 (by rfl) (fun w0 R => ?_)
        repeat' (first | (refine go_Y ?_; intros) | (refine gs_Y ?_ ?_ <;> (intro hgd; try (simp only [Bool.not_true, Bool.not_false] at hgd))) | (refine gc_Y ?_ ?_ <;> intro _) | fail)
        (refine rt_Y (y := ()) (hrs := Tryd.results124) (hv := ?_) (hφ := ?_))
        · have hd : decide ((⟨0, i, r, s⟩ : Vl) = ⟨0, 0, 0, ⟨#[]⟩⟩) = true := by rw [he] at hq; simpa only [nilB, Bool.not_eq_true', Bool.not_eq_false'] using hq
          show Value.int .i64 0 = Value.int .i64 (if (decide ((⟨0, i, r, s⟩ : Vl) = ⟨0, 0, 0, ⟨#[]⟩⟩) && decide (s.size ≤ 100)) = true then 0 else 2)
          have hz' : decide (s.size ≤ 100) = true := by simp at hz ⊢; omega
          rw [hd, hz']; rfl
        · trivial
  | false =>
  rw [if_neg (of_decide_eq_false o0)]
  cases o1 : decide (k = 1) with
  | true =>
    rw [if_pos (of_decide_eq_true o1)]
    have e1 : k = 1 := of_decide_eq_true o1
    subst e1
    cases u1 : decide ((1 : Int) < IntKind.u64.wrap i) with
    | true =>
      rw [if_pos (of_decide_eq_true u1)]
      refine spec_intro [] _ Tryd.func124 rfl Tryd.ntmps124 (by rfl) (fun w0 R => ?_)
      repeat' (first | (refine go_Y ?_; intros) | (refine gs_Y ?_ ?_ <;> (intro hgd; try (simp only [Bool.not_true, Bool.not_false] at hgd))) | (refine gc_Y ?_ ?_ <;> intro _) | fail)
      (refine rt_Y (y := ()) (hrs := Tryd.results124) (hv := ?_) (hφ := ?_))
      · rfl
      · trivial
    | false =>
      rw [if_neg (of_decide_eq_false u1)]
      dsimp only
      have he := eqL_valV ⟨1, i, r, s⟩ ⟨1, i, 0, ⟨#[]⟩⟩
      dsimp only [valV] at he
      cases hq : nilB BinOp.neq (eqL [TypeDesc.int .u8, TypeDesc.int .i64, TypeDesc.int .u64, TypeDesc.string] [Value.int .u8 1, Value.int .i64 i, Value.int .u64 r, Value.string s] [Value.int .u8 1, Value.int .i64 i, Value.int .u64 0, Value.string ⟨#[]⟩]) with
      | true =>
        refine spec_intro [] _ Tryd.func124 rfl Tryd.ntmps124 (by rfl) (fun w0 R => ?_)
        repeat' (first | (refine go_Y ?_; intros) | (refine gs_Y ?_ ?_ <;> (intro hgd; try (simp only [Bool.not_true, Bool.not_false] at hgd))) | (refine gc_Y ?_ ?_ <;> intro _) | fail)
        (refine rt_Y (y := ()) (hrs := Tryd.results124) (hv := ?_) (hφ := ?_))
        · have hd : decide ((⟨1, i, r, s⟩ : Vl) = ⟨1, i, 0, ⟨#[]⟩⟩) = false := by rw [he] at hq; simpa only [nilB, Bool.not_eq_true', Bool.not_eq_false'] using hq
          show Value.int .i64 2 = Value.int .i64 (if (decide ((⟨1, i, r, s⟩ : Vl) = ⟨1, i, 0, ⟨#[]⟩⟩) && decide (s.size ≤ 100)) = true then 0 else 2)
          rw [hd]; rfl
        · trivial
      | false =>
        cases hz : decide ((100 : Int) < (s.size : Int)) with
        | true =>
          refine spec_intro [] _ Tryd.func124 rfl Tryd.ntmps124 (by rfl) (fun w0 R => ?_)
          repeat' (first | (refine go_Y ?_; intros) | (refine gs_Y ?_ ?_ <;> (intro hgd; try (simp only [Bool.not_true, Bool.not_false] at hgd))) | (refine gc_Y ?_ ?_ <;> intro _) | fail)
          (refine rt_Y (y := ()) (hrs := Tryd.results124) (hv := ?_) (hφ := ?_))
          · have hd : decide ((⟨1, i, r, s⟩ : Vl) = ⟨1, i, 0, ⟨#[]⟩⟩) = true := by rw [he] at hq; simpa only [nilB, Bool.not_eq_true', Bool.not_eq_false'] using hq
            show Value.int .i64 2 = Value.int .i64 (if (decide ((⟨1, i, r, s⟩ : Vl) = ⟨1, i, 0, ⟨#[]⟩⟩) && decide (s.size ≤ 100)) = true then 0 else 2)
            have hz' : decide (s.size ≤ 100) = false := by simp at hz ⊢; omega
            rw [hd, hz']; rfl
          · trivial
        | false =>
          refine spec_intro [] _ Tryd.func124 rfl Tryd.ntmps124 (by rfl) (fun w0 R => ?_)
          repeat' (first | (refine go_Y ?_; intros) | (refine gs_Y ?_ ?_ <;> (intro hgd; try (simp only [Bool.not_true, Bool.not_false] at hgd))) | (refine gc_Y ?_ ?_ <;> intro _) | fail)
          (refine rt_Y (y := ()) (hrs := Tryd.results124) (hv := ?_) (hφ := ?_))
          · have hd : decide ((⟨1, i, r, s⟩ : Vl) = ⟨1, i, 0, ⟨#[]⟩⟩) = true := by rw [he] at hq; simpa only [nilB, Bool.not_eq_true', Bool.not_eq_false'] using hq
            show Value.int .i64 0 = Value.int .i64 (if (decide ((⟨1, i, r, s⟩ : Vl) = ⟨1, i, 0, ⟨#[]⟩⟩) && decide (s.size ≤ 100)) = true then 0 else 2)
            have hz' : decide (s.size ≤ 100) = true := by simp at hz ⊢; omega
            rw [hd, hz']; rfl
          · trivial
  | false =>
  rw [if_neg (of_decide_eq_false o1)]
  cases o2 : decide (k = 2) with
  | true =>
    rw [if_pos (of_decide_eq_true o2)]
    dsimp only
    have e2 : k = 2 := of_decide_eq_true o2
    subst e2
    have he := eqL_valV ⟨2, i, r, s⟩ ⟨2, i, 0, ⟨#[]⟩⟩
    dsimp only [valV] at he
    cases hq : nilB BinOp.neq (eqL [TypeDesc.int .u8, TypeDesc.int .i64, TypeDesc.int .u64, TypeDesc.string] [Value.int .u8 2, Value.int .i64 i, Value.int .u64 r, Value.string s] [Value.int .u8 2, Value.int .i64 i, Value.int .u64 0, Value.string ⟨#[]⟩]) with
    | true =>
      refine spec_intro [] _ Tryd.func124 rfl Tryd.ntmps124 (by rfl) (fun w0 R => ?_)
      repeat' (first | (refine go_Y ?_; intros) | (refine gs_Y ?_ ?_ <;> (intro hgd; try (simp only [Bool.not_true, Bool.not_false] at hgd))) | (refine gc_Y ?_ ?_ <;> intro _) | fail)
      (refine rt_Y (y := ()) (hrs := Tryd.results124) (hv := ?_) (hφ := ?_))
      · have hd : decide ((⟨2, i, r, s⟩ : Vl) = ⟨2, i, 0, ⟨#[]⟩⟩) = false := by rw [he] at hq; simpa only [nilB, Bool.not_eq_true', Bool.not_eq_false'] using hq
        show Value.int .i64 2 = Value.int .i64 (if (decide ((⟨2, i, r, s⟩ : Vl) = ⟨2, i, 0, ⟨#[]⟩⟩) && decide (s.size ≤ 100)) = true then 0 else 2)
        rw [hd]; rfl
      · trivial
    | false =>
      cases hz : decide ((100 : Int) < (s.size : Int)) with
      | true =>
        refine spec_intro [] _ Tryd.func124 rfl Tryd.ntmps124 (by rfl) (fun w0 R => ?_)
        repeat' (first | (refine go_Y ?_; intros) | (refine gs_Y ?_ ?_ <;> (intro hgd; try (simp only [Bool.not_true, Bool.not_false] at hgd))) | (refine gc_Y ?_ ?_ <;> intro _) | fail)
        (refine rt_Y (y := ()) (hrs := Tryd.results124) (hv := ?_) (hφ := ?_))
        · have hd : decide ((⟨2, i, r, s⟩ : Vl) = ⟨2, i, 0, ⟨#[]⟩⟩) = true := by rw [he] at hq; simpa only [nilB, Bool.not_eq_true', Bool.not_eq_false'] using hq
          show Value.int .i64 2 = Value.int .i64 (if (decide ((⟨2, i, r, s⟩ : Vl) = ⟨2, i, 0, ⟨#[]⟩⟩) && decide (s.size ≤ 100)) = true then 0 else 2)
          have hz' : decide (s.size ≤ 100) = false := by simp at hz ⊢; omega
          rw [hd, hz']; rfl
        · trivial
      | false =>
        refine spec_intro [] _ Tryd.func124 rfl Tryd.ntmps124 (by rfl) (fun w0 R => ?_)
        repeat' (first | (refine go_Y ?_; intros) | (refine gs_Y ?_ ?_ <;> (intro hgd; try (simp only [Bool.not_true, Bool.not_false] at hgd))) | (refine gc_Y ?_ ?_ <;> intro _) | fail)
        (refine rt_Y (y := ()) (hrs := Tryd.results124) (hv := ?_) (hφ := ?_))
        · have hd : decide ((⟨2, i, r, s⟩ : Vl) = ⟨2, i, 0, ⟨#[]⟩⟩) = true := by rw [he] at hq; simpa only [nilB, Bool.not_eq_true', Bool.not_eq_false'] using hq
          show Value.int .i64 0 = Value.int .i64 (if (decide ((⟨2, i, r, s⟩ : Vl) = ⟨2, i, 0, ⟨#[]⟩⟩) && decide (s.size ≤ 100)) = true then 0 else 2)
          have hz' : decide (s.size ≤ 100) = true := by simp at hz ⊢; omega
          rw [hd, hz']; rfl
        · trivial
  | false =>
  rw [if_neg (of_decide_eq_false o2)]
  cases o3 : decide (k = 3) with
  | true =>
    rw [if_pos (of_decide_eq_true o3)]
    dsimp only
    have e3 : k = 3 := of_decide_eq_true o3
    subst e3
    have hc := canon_spec r
    generalize canonR r = rc at hc
    have he := eqL_valV ⟨3, i, r, s⟩ ⟨3, 0, rc, ⟨#[]⟩⟩
    dsimp only [valV] at he
    cases hq : nilB BinOp.neq (eqL [TypeDesc.int .u8, TypeDesc.int .i64, TypeDesc.int .u64, TypeDesc.string] [Value.int .u8 3, Value.int .i64 i, Value.int .u64 r, Value.string s] [Value.int .u8 3, Value.int .i64 0, Value.int .u64 rc, Value.string ⟨#[]⟩]) with
    | true =>
      refine spec_intro [] _ Tryd.func124 rfl Tryd.ntmps124 (by rfl) (fun w0 R => ?_)
      repeat' (first | (refine go_Y ?_; intros) | (refine gs_Y ?_ ?_ <;> (intro hgd; try (simp only [Bool.not_true, Bool.not_false] at hgd))) | (refine gc_Y ?_ ?_ <;> intro _) | fail)
      refine cl_Y (hc) ?_
      intro _ _
      repeat' (first | (refine go_Y ?_; intros) | (refine gs_Y ?_ ?_ <;> (intro hgd; try (simp only [Bool.not_true, Bool.not_false] at hgd))) | (refine gc_Y ?_ ?_ <;> intro _) | fail)
      (refine rt_Y (y := ()) (hrs := Tryd.results124) (hv := ?_) (hφ := ?_))
      · have hd : decide ((⟨3, i, r, s⟩ : Vl) = ⟨3, 0, rc, ⟨#[]⟩⟩) = false := by rw [he] at hq; simpa only [nilB, Bool.not_eq_true', Bool.not_eq_false'] using hq
        show Value.int .i64 2 = Value.int .i64 (if (decide ((⟨3, i, r, s⟩ : Vl) = ⟨3, 0, rc, ⟨#[]⟩⟩) && decide (s.size ≤ 100)) = true then 0 else 2)
        rw [hd]; rfl
      · trivial
    | false =>
      cases hz : decide ((100 : Int) < (s.size : Int)) with
      | true =>
        refine spec_intro [] _ Tryd.func124 rfl Tryd.ntmps124 (by rfl) (fun w0 R => ?_)
        repeat' (first | (refine go_Y ?_; intros) | (refine gs_Y ?_ ?_ <;> (intro hgd; try (simp only [Bool.not_true, Bool.not_false] at hgd))) | (refine gc_Y ?_ ?_ <;> intro _) | fail)
        refine cl_Y (hc) ?_
        intro _ _
        repeat' (first | (refine go_Y ?_; intros) | (refine gs_Y ?_ ?_ <;> (intro hgd; try (simp only [Bool.not_true, Bool.not_false] at hgd))) | (refine gc_Y ?_ ?_ <;> intro _) | fail)
        (refine rt_Y (y := ()) (hrs := Tryd.results124) (hv := ?_) (hφ := ?_))
        · have hd : decide ((⟨3, i, r, s⟩ : Vl) = ⟨3, 0, rc, ⟨#[]⟩⟩) = true := by rw [he] at hq; simpa only [nilB, Bool.not_eq_true', Bool.not_eq_false'] using hq
          show Value.int .i64 2 = Value.int .i64 (if (decide ((⟨3, i, r, s⟩ : Vl) = ⟨3, 0, rc, ⟨#[]⟩⟩) && decide (s.size ≤ 100)) = true then 0 else 2)
          have hz' : decide (s.size ≤ 100) = false := by simp at hz ⊢; omega
          rw [hd, hz']; rfl
        · trivial
      | false =>
        refine spec_intro [] _ Tryd.func124 rfl Tryd.ntmps124 (by rfl) (fun w0 R => ?_)
        repeat' (first | (refine go_Y ?_; intros) | (refine gs_Y ?_ ?_ <;> (intro hgd; try (simp only [Bool.not_true, Bool.not_false] at hgd))) | (refine gc_Y ?_ ?_ <;> intro _) | fail)
        refine cl_Y (hc) ?_
        intro _ _
        repeat' (first | (refine go_Y ?_; intros) | (refine gs_Y ?_ ?_ <;> (intro hgd; try (simp only [Bool.not_true, Bool.not_false] at hgd))) | (refine gc_Y ?_ ?_ <;> intro _) | fail)
        (refine rt_Y (y := ()) (hrs := Tryd.results124) (hv := ?_) (hφ := ?_))
        · have hd : decide ((⟨3, i, r, s⟩ : Vl) = ⟨3, 0, rc, ⟨#[]⟩⟩) = true := by rw [he] at hq; simpa only [nilB, Bool.not_eq_true', Bool.not_eq_false'] using hq
          show Value.int .i64 0 = Value.int .i64 (if (decide ((⟨3, i, r, s⟩ : Vl) = ⟨3, 0, rc, ⟨#[]⟩⟩) && decide (s.size ≤ 100)) = true then 0 else 2)
          have hz' : decide (s.size ≤ 100) = true := by simp at hz ⊢; omega
          rw [hd, hz']; rfl
        · trivial
  | false =>
  rw [if_neg (of_decide_eq_false o3)]
  cases o5 : decide (k = 5) with
  | true =>
    rw [if_pos (of_decide_eq_true o5)]
    have e5 : k = 5 := of_decide_eq_true o5
    subst e5
    have hv := valid_spec s A hA (by have := hw.t; dsimp only at this; omega)
    cases u5 : validS s with
    | false =>
      rw [u5] at hv
      rw [if_neg (by simp)]
      refine spec_intro [] _ Tryd.func124 rfl Tryd.ntmps124 (by rfl) (fun w0 R => ?_)
      repeat' (first | (refine go_Y ?_; intros) | (refine gs_Y ?_ ?_ <;> (intro hgd; try (simp only [Bool.not_true, Bool.not_false] at hgd))) | (refine gc_Y ?_ ?_ <;> intro _) | fail)
      refine cl_Y (hv) ?_
      intro _ _
      repeat' (first | (refine go_Y ?_; intros) | (refine gs_Y ?_ ?_ <;> (intro hgd; try (simp only [Bool.not_true, Bool.not_false] at hgd))) | (refine gc_Y ?_ ?_ <;> intro _) | fail)
      (refine rt_Y (y := ()) (hrs := Tryd.results124) (hv := ?_) (hφ := ?_))
      · rfl
      · trivial
    | true =>
      rw [u5] at hv
      rw [if_pos rfl]
      dsimp only
      have he := eqL_valV ⟨5, i, r, s⟩ ⟨5, 0, 0, s⟩
      dsimp only [valV] at he
      cases hq : nilB BinOp.neq (eqL [TypeDesc.int .u8, TypeDesc.int .i64, TypeDesc.int .u64, TypeDesc.string] [Value.int .u8 5, Value.int .i64 i, Value.int .u64 r, Value.string s] [Value.int .u8 5, Value.int .i64 0, Value.int .u64 0, Value.string s]) with
      | true =>
        refine spec_intro [] _ Tryd.func124 rfl Tryd.ntmps124 (by rfl) (fun w0 R => ?_)
        repeat' (first | (refine go_Y ?_; intros) | (refine gs_Y ?_ ?_ <;> (intro hgd; try (simp only [Bool.not_true, Bool.not_false] at hgd))) | (refine gc_Y ?_ ?_ <;> intro _) | fail)
        refine cl_Y (hv) ?_
        intro _ _
        repeat' (first | (refine go_Y ?_; intros) | (refine gs_Y ?_ ?_ <;> (intro hgd; try (simp only [Bool.not_true, Bool.not_false] at hgd))) | (refine gc_Y ?_ ?_ <;> intro _) | fail)
        (refine rt_Y (y := ()) (hrs := Tryd.results124) (hv := ?_) (hφ := ?_))
        · have hd : decide ((⟨5, i, r, s⟩ : Vl) = ⟨5, 0, 0, s⟩) = false := by rw [he] at hq; simpa only [nilB, Bool.not_eq_true', Bool.not_eq_false'] using hq
          show Value.int .i64 2 = Value.int .i64 (if (decide ((⟨5, i, r, s⟩ : Vl) = ⟨5, 0, 0, s⟩) && decide (s.size ≤ 100)) = true then 0 else 2)
          rw [hd]; rfl
        · trivial
      | false =>
        cases hz : decide ((100 : Int) < (s.size : Int)) with
        | true =>
          refine spec_intro [] _ Tryd.func124 rfl Tryd.ntmps124 (by rfl) (fun w0 R => ?_)
          repeat' (first | (refine go_Y ?_; intros) | (refine gs_Y ?_ ?_ <;> (intro hgd; try (simp only [Bool.not_true, Bool.not_false] at hgd))) | (refine gc_Y ?_ ?_ <;> intro _) | fail)
          refine cl_Y (hv) ?_
          intro _ _
          repeat' (first | (refine go_Y ?_; intros) | (refine gs_Y ?_ ?_ <;> (intro hgd; try (simp only [Bool.not_true, Bool.not_false] at hgd))) | (refine gc_Y ?_ ?_ <;> intro _) | fail)
          (refine rt_Y (y := ()) (hrs := Tryd.results124) (hv := ?_) (hφ := ?_))
          · have hd : decide ((⟨5, i, r, s⟩ : Vl) = ⟨5, 0, 0, s⟩) = true := by rw [he] at hq; simpa only [nilB, Bool.not_eq_true', Bool.not_eq_false'] using hq
            show Value.int .i64 2 = Value.int .i64 (if (decide ((⟨5, i, r, s⟩ : Vl) = ⟨5, 0, 0, s⟩) && decide (s.size ≤ 100)) = true then 0 else 2)
            have hz' : decide (s.size ≤ 100) = false := by simp at hz ⊢; omega
            rw [hd, hz']; rfl
          · trivial
        | false =>
          refine spec_intro [] _ Tryd.func124 rfl Tryd.ntmps124 (by rfl) (fun w0 R => ?_)
          repeat' (first | (refine go_Y ?_; intros) | (refine gs_Y ?_ ?_ <;> (intro hgd; try (simp only [Bool.not_true, Bool.not_false] at hgd))) | (refine gc_Y ?_ ?_ <;> intro _) | fail)
          refine cl_Y (hv) ?_
          intro _ _
          repeat' (first | (refine go_Y ?_; intros) | (refine gs_Y ?_ ?_ <;> (intro hgd; try (simp only [Bool.not_true, Bool.not_false] at hgd))) | (refine gc_Y ?_ ?_ <;> intro _) | fail)
          (refine rt_Y (y := ()) (hrs := Tryd.results124) (hv := ?_) (hφ := ?_))
          · have hd : decide ((⟨5, i, r, s⟩ : Vl) = ⟨5, 0, 0, s⟩) = true := by rw [he] at hq; simpa only [nilB, Bool.not_eq_true', Bool.not_eq_false'] using hq
            show Value.int .i64 0 = Value.int .i64 (if (decide ((⟨5, i, r, s⟩ : Vl) = ⟨5, 0, 0, s⟩) && decide (s.size ≤ 100)) = true then 0 else 2)
            have hz' : decide (s.size ≤ 100) = true := by simp at hz ⊢; omega
            rw [hd, hz']; rfl
          · trivial
  | false =>
  rw [if_neg (of_decide_eq_false o5)]
  cases o4 : decide (k = 4) with
  | true =>
    rw [if_pos (of_decide_eq_true o4)]
    dsimp only
    have e4 : k = 4 := of_decide_eq_true o4
    subst e4
    have he := eqL_valV ⟨4, i, r, s⟩ ⟨4, 0, 0, s⟩
    dsimp only [valV] at he
    cases hq : nilB BinOp.neq (eqL [TypeDesc.int .u8, TypeDesc.int .i64, TypeDesc.int .u64, TypeDesc.string] [Value.int .u8 4, Value.int .i64 i, Value.int .u64 r, Value.string s] [Value.int .u8 4, Value.int .i64 0, Value.int .u64 0, Value.string s]) with
    | true =>
      refine spec_intro [] _ Tryd.func124 rfl Tryd.ntmps124 (by rfl) (fun w0 R => ?_)
      repeat' (first | (refine go_Y ?_; intros) | (refine gs_Y ?_ ?_ <;> (intro hgd; try (simp only [Bool.not_true, Bool.not_false] at hgd))) | (refine gc_Y ?_ ?_ <;> intro _) | fail)
      (refine rt_Y (y := ()) (hrs := Tryd.results124) (hv := ?_) (hφ := ?_))
      · have hd : decide ((⟨4, i, r, s⟩ : Vl) = ⟨4, 0, 0, s⟩) = false := by rw [he] at hq; simpa only [nilB, Bool.not_eq_true', Bool.not_eq_false'] using hq
        show Value.int .i64 2 = Value.int .i64 (if (decide ((⟨4, i, r, s⟩ : Vl) = ⟨4, 0, 0, s⟩) && decide (s.size ≤ 100)) = true then 0 else 2)
        rw [hd]; rfl
      · trivial
    | false =>
      cases hz : decide ((100 : Int) < (s.size : Int)) with
      | true =>
        refine spec_intro [] _ Tryd.func124 rfl Tryd.ntmps124 (by rfl) (fun w0 R => ?_)
        repeat' (first | (refine go_Y ?_; intros) | (refine gs_Y ?_ ?_ <;> (intro hgd; try (simp only [Bool.not_true, Bool.not_false] at hgd))) | (refine gc_Y ?_ ?_ <;> intro _) | fail)
        (refine rt_Y (y := ()) (hrs := Tryd.results124) (hv := ?_) (hφ := ?_))
        · have hd : decide ((⟨4, i, r, s⟩ : Vl) = ⟨4, 0, 0, s⟩) = true := by rw [he] at hq; simpa only [nilB, Bool.not_eq_true', Bool.not_eq_false'] using hq
          show Value.int .i64 2 = Value.int .i64 (if (decide ((⟨4, i, r, s⟩ : Vl) = ⟨4, 0, 0, s⟩) && decide (s.size ≤ 100)) = true then 0 else 2)
          have hz' : decide (s.size ≤ 100) = false := by simp at hz ⊢; omega
          rw [hd, hz']; rfl
        · trivial
      | false =>
        refine spec_intro [] _ Tryd.func124 rfl Tryd.ntmps124 (by rfl) (fun w0 R => ?_)
        repeat' (first | (refine go_Y ?_; intros) | (refine gs_Y ?_ ?_ <;> (intro hgd; try (simp only [Bool.not_true, Bool.not_false] at hgd))) | (refine gc_Y ?_ ?_ <;> intro _) | fail)
        (refine rt_Y (y := ()) (hrs := Tryd.results124) (hv := ?_) (hφ := ?_))
        · have hd : decide ((⟨4, i, r, s⟩ : Vl) = ⟨4, 0, 0, s⟩) = true := by rw [he] at hq; simpa only [nilB, Bool.not_eq_true', Bool.not_eq_false'] using hq
          show Value.int .i64 0 = Value.int .i64 (if (decide ((⟨4, i, r, s⟩ : Vl) = ⟨4, 0, 0, s⟩) && decide (s.size ≤ 100)) = true then 0 else 2)
          have hz' : decide (s.size ≤ 100) = true := by simp at hz ⊢; omega
          rw [hd, hz']; rfl
        · trivial
  | false =>
  rw [if_neg (of_decide_eq_false o4)]
  refine spec_intro [] _ Tryd.func124 rfl Tryd.ntmps124 (by rfl) (fun w0 R => ?_)
  repeat' (first | (refine go_Y ?_; intros) | (refine gs_Y ?_ ?_ <;> (intro hgd; try (simp only [Bool.not_true, Bool.not_false] at hgd))) | (refine gc_Y ?_ ?_ <;> intro _) | fail)
  (refine rt_Y (y := ()) (hrs := Tryd.results124) (hv := ?_) (hφ := ?_))
  · rfl
  · trivial
end Go.Proofs.YtbagfdolcabniaaDoor
