import Derived.Test.YtphaegcoldpclaaDoorStE
import Derived.Test.YtphaegcoldpclaaDoorG5
set_option linter.unusedSimpArgs false
set_option linter.unusedVariables false
set_option maxRecDepth 100000
namespace Go.Pl
open Go Go.Fx
def alC (a b : Vl) : Chg := ⟨1, 1, [], [a, b]⟩
end Go.Pl
namespace Go.Proofs.YtphaegcoldpclaaDoor
open Go Go.Fx Go.Proofs Go.Pl

def avOuts : List (List Value) := [[.string ⟨#[109, 97, 114, 107, 115]⟩, .int .u64 1, .string (putMB 1 5 [] [0, 0])], [.string ⟨#[116, 45, 98]⟩, .int .u64 1, .string (putEB 5 0 0 (alC (nV 1) (nV 2)))], [.string ⟨#[109, 97, 114, 107, 115]⟩, .int .u64 2, .string (putMB 2 5 [0, 1] [0, 1])]]
def avTops : List (List Value) := [[.string ⟨#[109, 97, 114, 107, 115]⟩], [.string ⟨#[116, 45, 97]⟩], [.string ⟨#[116, 45, 98]⟩]]
theorem av_may : mayOf twoS 0 [0, 0] [alC (nV 1) (nV 2)] = true := by decide +kernel
theorem av_no : mayOf twoS 0 [] [] = false := by decide +kernel
theorem av_outs : ofOuts twoS 5 0 [0, 0] [alC (nV 1) (nV 2)] = [(⟨#[109, 97, 114, 107, 115]⟩, 1, putMB 1 5 [] [0, 0]), (⟨#[116, 45, 98]⟩, 1, putEB 5 0 0 (alC (nV 1) (nV 2))), (⟨#[109, 97, 114, 107, 115]⟩, 2, putMB 2 5 [0, 1] [0, 1])] := by decide +kernel
theorem av_seqs : ofSeqs twoS 5 0 [0, 0] [alC (nV 1) (nV 2)] = [0, 1] := by decide +kernel
theorem av_topics : topicsS twoS = [⟨#[109, 97, 114, 107, 115]⟩, ⟨#[116, 45, 97]⟩, ⟨#[116, 45, 98]⟩] := by decide +kernel
theorem av_at : getMK (putMB 2 5 [0, 1] [0, 1]) = (⟨2, 5, [0, 1], [0, 1]⟩, 0) := by
  have h1 : (getMK (putMB 2 5 [0, 1] [0, 1])).1.kind = 2 := by decide +kernel
  have h2 : (getMK (putMB 2 5 [0, 1] [0, 1])).1.tx = 5 := by decide +kernel
  have h3 : (getMK (putMB 2 5 [0, 1] [0, 1])).1.counts = [0, 1] := by decide +kernel
  have h4 : (getMK (putMB 2 5 [0, 1] [0, 1])).1.seqs = [0, 1] := by decide +kernel
  have h5 : (getMK (putMB 2 5 [0, 1] [0, 1])).2 = 0 := by decide +kernel
  generalize getMK (putMB 2 5 [0, 1] [0, 1]) = g at *
  obtain ⟨⟨a, b, c, d⟩, e⟩ := g
  dsimp only at *
  subst h1 h2 h3 h4 h5
  rfl
theorem av_at2 : atS twoS 2 (putMB 2 5 [0, 1] [0, 1]) = (2, ⟨2, 5, [0, 1], [0, 1]⟩, 0) := by
  unfold atS
  rw [av_at, two_ok]
  rfl
theorem av_size : (putMB 2 5 [0, 1] [0, 1]).size ≤ 1000000 := by decide +kernel
theorem num20_spec (n : Int) : FSpec Tryd.prog 31 [.int .i64 n] [] Unit (fun _ => True) (fun _ => .agg (valV ⟨2, n, 0, ⟨#[]⟩⟩).toArray) (fun _ => []) := by
  refine spec_intro [] _ Tryd.func31 rfl Tryd.ntmps31 (by rfl) (fun w0 R => ?_)
  repeat' (first | (refine go_Y ?_; intros) | (refine gs_Y ?_ ?_ <;> (intro hgd; try (simp only [Bool.not_true, Bool.not_false] at hgd))) | (refine gc_Y ?_ ?_ <;> intro _) | fail)
  (refine rt_Y (y := ()) (hrs := Tryd.results31) (hv := ?_) (hφ := ?_))
  · rfl
  · trivial
theorem avOf_spec (vs : Value) (ts : List Tb) (P : HProp) (h : SV P vs ts) (hU : UT P) (hs : ts.map Tb.c = twoS) (vq vv vc : Value) :
    FSpec Tryd.prog 10 [.agg #[vs], .agg #[.int .u64 0, vq], .int .u64 5, vc]
      [row 51 4 vc [[.int .u8 1, .int .i64 1, .slice none 0 0, vv]], row 71 4 vv [valV (nV 1), valV (nV 2)], row 25 1 vq [[.int .u64 0], [.int .u64 0]], P] (V1s × V1s) (fun _ => True)
      (fun y => .tuple #[y.1.1, .agg #[.int .u64 2, y.2.1], .int .i64 0])
      (fun y => [row 57 3 y.1.1 avOuts, row 25 1 y.2.1 [[.int .u64 0], [.int .u64 1]], P]) := by
  refine fspec_lrn (fun R hh s => rowShapeS (e := 71) (n := 4) (v := vv) (xs := [valV (nV 1), valV (nV 2)]) (by decide) takeD hh s) ?_
  rintro ⟨pv, cv, rfl, _, _⟩
  refine fspec_lrn (fun R hh s => rowShapeS (e := 51) (n := 4) (v := vc) (xs := [[.int .u8 1, .int .i64 1, .slice none 0 0, .slice pv 2 cv]]) (by decide) takeD hh s) ?_
  rintro ⟨pc, cc, rfl, _, _⟩
  refine fspec_lrn (fun R hh s => rowShapeS (e := 25) (n := 1) (v := vq) (xs := [[.int .u64 0], [.int .u64 0]]) (by decide) takeD hh s) ?_
  rintro ⟨pq, cq, rfl, _, _⟩
  have hE : Ext P (pool (row 51 4 (.slice pc 1 cc) [[.int .u8 1, .int .i64 1, .slice none 0 0, .slice pv 2 cv]]) (pool (row 71 4 (.slice pv 2 cv) [valV (nV 1), valV (nV 2)]) P)) := (Ext.pool _ _).trans (Ext.pool _ _)
  have hof := of_spec vs (.slice pq 2 cq) (.slice pc 1 cc) ts 0 5 [0, 0] [⟨1, 1, ⟨.slice none 0 0, rfl⟩, [], ⟨.slice pv 2 cv, rfl⟩, [nV 1, nV 2]⟩]
    (pool (row 51 4 (.slice pc 1 cc) [[.int .u8 1, .int .i64 1, .slice none 0 0, .slice pv 2 cv]]) (pool (row 71 4 (.slice pv 2 cv) [valV (nV 1), valV (nV 2)]) P)) (row 25 1 (.slice pq 2 cq) [[.int .u64 0], [.int .u64 0]])
    (h.ext hE) (hU.ext hE) Vw.row pool_row (fun x hx => by
      rw [List.mem_singleton.1 hx]
      exact ⟨vw_nil4, (Ext.pool _ _).vw pool_row⟩) (fun x hx => by
      rw [List.mem_singleton.1 hx]
      refine ⟨fun v hv => by simp at hv, fun v hv => ?_, by show (0 : Nat) ≤ _; omega, by show (2 : Nat) ≤ _; omega⟩
      have hv' : v = nV 1 ∨ v = nV 2 := by simpa using hv
      rcases hv' with rfl | rfl <;> exact nV_wf (by decide) (by decide)) (by decide) (by decide) (by decide) (by decide) (by decide) (by show (1 : Nat) ≤ _; omega)
  rw [hs, show ([⟨1, 1, ⟨.slice none 0 0, rfl⟩, [], ⟨.slice pv 2 cv, rfl⟩, [nV 1, nV 2]⟩] : List Cm).map Cm.c = [alC (nV 1) (nV 2)] from rfl, av_may, av_outs, av_seqs] at hof
  dsimp only [cond_true, List.map_cons, List.map_nil, outV, sqV] at hof
  refine hof.conseq (fun R hh s => ?_) (fun y _ => ⟨y, trivial, rfl, fun R hh s => ?_⟩)
  · have s1 := pool_in (A := row 71 4 (.slice pv 2 cv) [valV (nV 1), valV (nV 2)]) (P := P) (Take.out2 takeD s)
    have s2 := pool_in (A := row 51 4 (.slice pc 1 cc) [[.int .u8 1, .int .i64 1, .slice none 0 0, .slice pv 2 cv]]) (P := pool (row 71 4 (.slice pv 2 cv) [valV (nV 1), valV (nV 2)]) P) (Take.out2 takeD s1)
    exact s2
  · have s1 := Take.out1 (A := pool (row 51 4 (.slice pc 1 cc) [[.int .u8 1, .int .i64 1, .slice none 0 0, .slice pv 2 cv]]) (pool (row 71 4 (.slice pv 2 cv) [valV (nV 1), valV (nV 2)]) P)) takeD s
    have s2 := SatL.flat (M := [_, _]) s1
    have s3 := Take.out1 (A := pool (row 71 4 (.slice pv 2 cv) [valV (nV 1), valV (nV 2)]) P) takeD s2
    have s4 := SatL.flat (M := [_, _]) s3
    exact (entD : ∀ h, SatL _ h → SatL _ h) hh s4
end Go.Proofs.YtphaegcoldpclaaDoor
