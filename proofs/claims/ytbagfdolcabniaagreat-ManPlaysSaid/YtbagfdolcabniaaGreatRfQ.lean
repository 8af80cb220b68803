/- The walk of ManPlays. -/
import Derived.Test.YtbagfdolcabniaaGreatG9
import Derived.Test.YtbagfdolcabniaaGreatFwY
-- @DEFS Y
set_option linter.unusedSimpArgs false
set_option linter.unusedVariables false
set_option maxRecDepth 4000
namespace Go.Proofs.YtbagfdolcabniaaGreat
open Go Go.Fx Go.Proofs Go.Pl

theorem clW_Q {P : Program} {f : FuncId} {args : List Value} {pre : List HProp} {Y : Type} {φ : Y → Prop} {ret : Y → Value} {post : Y → List HProp} (Ls' : List HProp) (hs : FSpec P f args pre Y φ ret post) {G : Prop} {K : Y → Prop} (k : ∀ y, φ y → K y)
    (h : Tag Ls' → FSpec P f args pre Y φ ret post → (∀ y, φ y → K y) → G := by intro ht hs k; (try (first | (apply ops_run) | (apply ops_guard_run; (focus (exact rfl)); (focus (exact rfl)); (focus ((conv => lhs; whnf); first | done | with_reducible rfl | (refine congrArg Value.bool ?_; with_reducible assumption)))))); (apply s_callW; (focus (exact ht)); (focus ((repeat (first | exact EvA.nil | (apply EvA.cons; (focus ((conv => lhs; whnf); first | done | rfl))))))); (focus (exact hs)); (focus ((repeat (first | (apply Take.cons; (focus ((repeat (first | exact Sel.here | apply Sel.there)); first | done | fail))) | exact Take.nil)); first | done | fail)); (focus (exact rfl)); (focus (exact rfl)); (focus (exact (fun _ _ => takePre (by (repeat (first | (apply Take.cons; (focus ((repeat (first | exact Sel.here | apply Sel.there)); first | done | fail))) | exact Take.nil)); first | done | fail)))); exact k)) : G := h .mk hs k
theorem does_open (b rb n : Nat) (d : Dk) (x : Sm) (A : HProp) (hD : Dn n d) (hn : n ≤ 1000) (hA : Vw A 1 x.v.1 (x.m.runs.map uV)) (hcap : capOk x.v.1) (hw : x.m.wf) (hl : x.m.runs.length ≤ 20) :
    FSpec Tryz.prog 8 [.pointer (some ⟨b, 0, none⟩), .pointer (some ⟨rb, 0, none⟩), .agg (smV x).toArray] [diskP b d, rkP rb d, A] (Unit × { y : RY // RkOK (doesD x d) y }) (fun _ => True) (fun _ => .bool true) (fun y => rkL rb (doesD x d) y.2 ++ [diskP b (doesD x d), A]) :=
  fspec_out (Y := Unit) (φ := fun _ => True) (ret := fun _ => .bool true) (M := fun _ => rkL rb (doesD x d)) (post := fun _ => [diskP b (doesD x d), A])
    ((does_spec b rb n d x A hD hn hA hcap hw hl).conseq (fun _ _ s => s) (fun _ _ => ⟨(), trivial, rfl, fun R h s => s.swap⟩))
theorem len_filesL (d : Dk) : (filesL d.files).length ≤ d.files.length := by
  unfold filesL sortN
  simp

set_option maxHeartbeats 4000000 in
theorem ManPlays_spec (u : Value) (A : HProp) (xs : List Sm) (hA : Vw A 6 u (xs.map smV)) (hv : ∀ x ∈ xs, Vw A 1 x.v.1 (x.m.runs.map uV) ∧ capOk x.v.1 ∧ x.m.wf ∧ x.n ≤ 9223372036854775807) :
    FSpec Tryz.prog 3 [u] [A] Unit (fun _ => True) (fun _ => .bool true) (fun _ => [A]) := by
  refine spec_intro [] _ Tryz.func3 rfl Tryz.ntmps3 (by rfl) (fun w0 R => ?_)
  refine ok_learn (VwIn.slice (VwIn.here hA)) ?_
  rintro ⟨pu, cu, rfl⟩
  repeat' (first | (refine go_Y ?_; intros) | (refine gs_Y ?_ ?_ <;> (intro hgd; try (simp only [Bool.not_true, Bool.not_false] at hgd))) | (refine gc_Y ?_ ?_ <;> intro _) | fail)
  refine cl_Y (heavyM_spec (.slice pu (xs.map smV).length cu) A xs hA (fun x hx => (hv x hx).1)) ?_
  intro y hy
  cases y with
  | true =>
    repeat' (first | (refine go_Y ?_; intros) | (refine gs_Y ?_ ?_ <;> (intro hgd; try (simp only [Bool.not_true, Bool.not_false] at hgd))) | (refine gc_Y ?_ ?_ <;> intro _) | fail)
    refine cl_Y (alive_man) ?_
    intro _ _
    repeat' (first | (refine go_Y ?_; intros) | (refine gs_Y ?_ ?_ <;> (intro hgd; try (simp only [Bool.not_true, Bool.not_false] at hgd))) | (refine gc_Y ?_ ?_ <;> intro _) | fail)
    (refine rt_Y (y := ()) (hrs := Tryz.results3) (hv := ?_) (hφ := ?_))
    · rfl
    · trivial
  | false =>
    obtain ⟨hlen60, hruns⟩ := hy rfl
    have hlen : (xs.map smV).length = xs.length := by simp
    repeat' (first | (refine go_Y ?_; intros) | (refine gs_Y ?_ ?_ <;> (intro hgd; try (simp only [Bool.not_true, Bool.not_false] at hgd))) | (refine gc_Y ?_ ?_ <;> intro _) | fail)
    refine cl_Y (new_spec 65536 (by decide) (by decide)) ?_
    intro b _
    repeat' (first | (refine go_Y ?_; intros) | (refine gs_Y ?_ ?_ <;> (intro hgd; try (simp only [Bool.not_true, Bool.not_false] at hgd))) | (refine gc_Y ?_ ?_ <;> intro _) | fail)
    refine cl_Y (refNew_spec 65536 (by decide) (by decide)) ?_
    intro rb _
    repeat' (first | (refine go_Y ?_; intros) | (refine gs_Y ?_ ?_ <;> (intro hgd; try (simp only [Bool.not_true, Bool.not_false] at hgd))) | (refine gc_Y ?_ ?_ <;> intro _) | fail)
    have hD0 : Dn 0 (newD 65536) := Dn.new (by decide) (by decide)
    generalize newD 65536 = d0 at hD0
    refine ok_map (L' := [diskP b d0, rkP rb d0, A] ++ R) entD ?_
    refine ok_loop' (γ := Nat × Dk) (fun g ρ L => g.1 ≤ xs.length ∧ Dn (6 * g.1) g.2 ∧ Knows ρ [(0, .slice pu (xs.map smV).length cu), (3, .pointer (some ⟨b, 0, none⟩)), (5, .pointer (some ⟨rb, 0, none⟩)), (7, .int .i64 g.1)] ∧ L = [diskP b g.2, rkP rb g.2, A] ++ R) (fun g => xs.length - g.1)
      (0, d0) ⟨by simp, hD0, ⟨rfl, rfl, rfl, rfl, trivial⟩, rfl⟩ ?_
    rintro ⟨i, d⟩ ρ L ⟨hi, hD, hk, rfl⟩
    dsimp only at hi hD hk ⊢
    refine ok_regs hk ?_
    cases t1 : decide ((i : Int) < ((xs.map smV).length : Int)) with
    | false =>
      have hie : i = xs.length := by simp at t1; omega
      have hDz := hD.fuseTo (k := -1) (by decide)
      have hst : (d.fuseTo (-1)).still = false := by unfold Dk.fuseTo; simp
      have hF := Files_spec b (d.fuseTo (-1)) hst hDz.files.2 (by have := hDz.files.1; omega)
      have hfl := len_filesL (d.fuseTo (-1))
      have hfn : (d.fuseTo (-1)).files.length ≤ 6 * i := hDz.files.1
      have hrel : ∀ l, RelF d.files l → filesL (d.fuseTo (-1)).files = l := fun l h => filesL_rel h hD.ok.nd hD.ok.used
      have hfu := fuse_spec b d (-1)
      generalize d.fuseTo (-1) = dz at hF hfl hfn hrel hfu
      generalize hfz : filesL dz.files = fz at hF hfl hrel
      repeat' (first | (refine go_Y ?_; intros) | (refine gs_Y ?_ ?_ <;> (intro hgd; try (simp only [Bool.not_true, Bool.not_false] at hgd))) | (refine gc_Y ?_ ?_ <;> intro _) | fail)
      refine cl_Y (hfu) ?_
      intro _ _
      repeat' (first | (refine go_Y ?_; intros) | (refine gs_Y ?_ ?_ <;> (intro hgd; try (simp only [Bool.not_true, Bool.not_false] at hgd))) | (refine gc_Y ?_ ?_ <;> intro _) | fail)
      refine cl_Y (hF) ?_
      rintro ⟨vF, hvF⟩ _
      repeat' (first | (refine ro_Y ?_; intros) | fail)
      refine cont_ex (M := rkL rb d) selD ?_
      rintro ⟨⟨vL, vS, vC, P, lL, lS⟩, hy⟩
      obtain ⟨cL, cS, cC, wL, wS, rL, rS⟩ := hy
      dsimp only at cL cS cC wL wS rL rS
      unfold rkL
      dsimp only
      have hff := hrel lL rL
      subst hff
      have hs := filesSame_spec vF vL (row 67 2 vF (fz.map fileV)) P fz Vw.row wL (by omega)
      repeat' (first | (refine go_Y ?_; intros) | (refine gs_Y ?_ ?_ <;> (intro hgd; try (simp only [Bool.not_true, Bool.not_false] at hgd))) | (refine gc_Y ?_ ?_ <;> intro _) | fail)
      refine cl_Y (hs) ?_
      intro _ _
      repeat' (first | (refine go_Y ?_; intros) | (refine gs_Y ?_ ?_ <;> (intro hgd; try (simp only [Bool.not_true, Bool.not_false] at hgd))) | (refine gc_Y ?_ ?_ <;> intro _) | fail)
      refine cl_Y (alive_man) ?_
      intro _ _
      repeat' (first | (refine go_Y ?_; intros) | (refine gs_Y ?_ ?_ <;> (intro hgd; try (simp only [Bool.not_true, Bool.not_false] at hgd))) | (refine gc_Y ?_ ?_ <;> intro _) | fail)
      (refine rt_Y (y := ()) (hrs := Tryz.results3) (hv := ?_) (hφ := ?_))
      · rfl
      · trivial
    | true =>
      have h : i < xs.length := by simp at t1; omega
      have hn1 : i < (xs.map smV).length := by omega
      have hx : (xs.map smV)[i]? = some (smV xs[i]) := (by rw [List.getElem?_map, List.getElem?_eq_getElem h]; rfl)
      obtain ⟨hvx, hcx, hwx, hnx⟩ := hv _ (List.getElem_mem h)
      have hrx := hruns _ (List.getElem_mem h)
      refine ok_learn (VwIn.base (VwIn.there (VwIn.there (VwIn.here hA))) (by intro e; rw [e] at hn1; simp at hn1)) ?_
      rintro ⟨bu, ou, rfl⟩
      generalize xs[i] = x at hx hvx hcx hwx hnx hrx
      have hdo := does_open b rb (6 * i) d x A hD (by omega) hvx hcx hwx hrx
      have hD' : Dn (6 * (i + 1)) (doesD x d) := (hD.does x hnx).mono (by omega)
      generalize doesD x d = d' at hdo hD'
      obtain ⟨o, m, ⟨v, hvc⟩, n, k⟩ := x
      dsimp only [smV] at hx hdo
      have hdm := hD'.dm
      have hlc := hD'.lcnt
      repeat' (first | (refine go_Y ?_; intros) | (refine gs_Y ?_ ?_ <;> (intro hgd; try (simp only [Bool.not_true, Bool.not_false] at hgd))) | (refine gc_Y ?_ ?_ <;> intro _) | fail)
      (apply ok_draw [17]; (focus (kernel_rfl)); (focus ((conv => lhs; whnf); first | done | rfl)); (focus (decide +kernel)); (focus (exact (fun _ h => h))))
      repeat' (first | (refine go_Y ?_; intros) | (refine gs_Y ?_ ?_ <;> (intro hgd; try (simp only [Bool.not_true, Bool.not_false] at hgd))) | (refine gc_Y ?_ ?_ <;> intro _) | fail)
      refine cl_Y (hdo) ?_
      rintro ⟨_, ⟨⟨vL, vS, vC, P, lL, lS⟩, hy⟩⟩ _
      have hy' := hy
      obtain ⟨cL, cS, cC, wL, wS, rL, rS⟩ := hy
      dsimp only [rkL] at cL cS cC wL wS rL rS ⊢
      repeat' (first | (refine go_Y ?_; intros) | (refine gs_Y ?_ ?_ <;> (intro hgd; try (simp only [Bool.not_true, Bool.not_false] at hgd))) | (refine gc_Y ?_ ?_ <;> intro _) | fail)
      refine cl_Y (Used_spec b d' hD'.ok) ?_
      intro _ _
      repeat' (first | (refine go_Y ?_; intros) | (refine gs_Y ?_ ?_ <;> (intro hgd; try (simp only [Bool.not_true, Bool.not_false] at hgd))) | (refine gc_Y ?_ ?_ <;> intro _) | fail)
      have hus := refUsed_spec rb vL vS vC d'.room d'.fuse d'.still P lL wL (by have := used_rel rL hD'.ok; omega) (by have := len_rel rL hdm; omega)
      rw [rL.used hD'.ok.nd] at hus
      refine clW_Q [pts rb (.cells [vL, vS, vC, .int .i64 d'.room, .int .i64 d'.fuse, .bool d'.still].toArray 43), row 65 4 vC (d'.loose.map callV)] hus ?_
      intro _ _
      repeat' (first | (refine go_Y ?_; intros) | (refine gs_Y ?_ ?_ <;> (intro hgd; try (simp only [Bool.not_true, Bool.not_false] at hgd))) | (refine gc_Y ?_ ?_ <;> intro _) | fail)
      have hll : (!decide ((d'.loose.length : Int) = ((d'.loose.map callV).length : Int))) = false := by simp
      refine clN_Y (Loose_spec b d') ?_
      intro _ _
      repeat' (first | (refine go_Y ?_; intros) | (refine gs_Y ?_ ?_ <;> (intro hgd; try (simp only [Bool.not_true, Bool.not_false] at hgd))) | (refine gc_Y ?_ ?_ <;> intro _) | fail)
      refine cont_map (fun _ h => rk_in (b := rb) (d := d') (y := ⟨vL, vS, vC, P, lL, lS⟩) hy' (Take.out takeD h)) ?_
      refine cont_map (L' := [diskP b d', rkP rb d', A] ++ R) entD ?_
      refine cont_back (i + 1, d') ⟨h, hD', ⟨rfl, rfl, rfl, rfl, trivial⟩, rfl⟩ (by show xs.length - (i + 1) < xs.length - i; omega)
end Go.Proofs.YtbagfdolcabniaaGreat
