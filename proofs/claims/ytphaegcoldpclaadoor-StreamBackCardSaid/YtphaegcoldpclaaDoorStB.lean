import Derived.Test.YtphaegcoldpclaaDoorStA
set_option linter.unusedSimpArgs false
set_option linter.unusedVariables false
set_option maxRecDepth 100000
namespace Go.Proofs.YtphaegcoldpclaaDoor
open Go Go.Fx Go.Proofs Go.Pl

def outV (o : BA × Int × BA) : List Value := [.string o.1, .int .u64 o.2.1, .string o.2.2]
theorem outV_app (l : List (BA × Int × BA)) (a : BA) (n : Int) (b : BA) : l.map outV ++ [[.string a, .int .u64 n, .string b]] = (l ++ [(a, n, b)]).map outV := by rw [List.map_append]; rfl
theorem outPutM_spec (tp tx : BA) (m : Int) (bp bo : Nat) (u vq : Value) (outs : List (BA × Int × BA)) (h0 : 0 ≤ m) (h1 : m ≤ 4611686018427388904) (hl : outs.length ≤ 1000) :
    FSpec Tryd.prog 34 [.string tp, .pointer (some ⟨bp, 0, none⟩), .string tx, .pointer (some ⟨bo, 0, none⟩)]
      [pts bo (.cells [u].toArray 34), row 57 3 u (outs.map outV), pts bp (.cells [.int .u64 m, vq].toArray 28)] V1s (fun _ => True) (fun _ => .tuple #[])
      (fun y => [pts bo (.cells [y.1].toArray 34), row 57 3 y.1 ((outs ++ [(tp, m + 1, tx)]).map outV), pts bp (.cells [.int .u64 (m + 1), vq].toArray 28)]) := by
  have hw : IntKind.u64.wrap (arith BinOp.add m 1) = m + 1 := u64_eq (x := m + 1) (by omega) (by omega)
  have ll : (outs.map outV).length = outs.length := by simp
  refine spec_intro [] _ Tryd.func34 rfl Tryd.ntmps34 (by rfl) (fun w0 R => ?_)
  refine ok_learn (rowShapeS (e := 57) (n := 3) (v := u) (xs := outs.map outV) (by decide) takeD) ?_
  rintro ⟨pu, cu, rfl, hcu, hsu⟩
  repeat' (first | (refine go_Y ?_; intros) | (refine gs_Y ?_ ?_ <;> (intro hgd; try (simp only [Bool.not_true, Bool.not_false] at hgd))) | (refine gc_Y ?_ ?_ <;> intro _) | fail)
  rw [hw]
  (apply ok_draw [7]; (focus (kernel_rfl)); (focus ((conv => lhs; whnf); first | done | rfl)); (focus (decide +kernel)); (focus (exact (fun _ h => h))))
  repeat' (first | (refine go_Y ?_; intros) | (refine gs_Y ?_ ?_ <;> (intro hgd; try (simp only [Bool.not_true, Bool.not_false] at hgd))) | (refine gc_Y ?_ ?_ <;> intro _) | fail)
  rename_i v1 hv1 v2 hv2
  rw [outV_app]
  (refine rt_Y (y := ⟨v2, hv2⟩) (hrs := Tryd.results34) (hv := ?_) (hφ := ?_))
  · rfl
  · trivial
theorem outPutS_spec (tp tx : BA) (qs : List Int) (t bs n bo : Nat) (u : Value) (outs : List (BA × Int × BA)) (ht : t < qs.length) (hn : qs.length = n) (h0 : 0 ≤ gI qs t) (h1 : gI qs t ≤ 4611686018427388904) (hl : outs.length ≤ 1000) :
    FSpec Tryd.prog 34 [.string tp, .pointer (some ⟨bs, slot 0 1 t 0, none⟩), .string tx, .pointer (some ⟨bo, 0, none⟩)]
      [pts bo (.cells [u].toArray 34), row 57 3 u (outs.map outV), row 25 1 (.slice (some ⟨bs, 0, none⟩) n n) (qs.map sqV)] V1s (fun _ => True) (fun _ => .tuple #[])
      (fun y => [pts bo (.cells [y.1].toArray 34), row 57 3 y.1 ((outs ++ [(tp, gI qs t + 1, tx)]).map outV), row 25 1 (.slice (some ⟨bs, 0, none⟩) n n) ((qs.set t (gI qs t + 1)).map sqV)]) := by
  have ll : (outs.map outV).length = outs.length := by simp
  have hx : (qs.map sqV)[t]? = some [.int .u64 (gI qs t)] := by rw [List.getElem?_map, List.getElem?_eq_getElem ht, gI_get ht]; rfl
  have hset : (qs.map sqV).set t [.int .u64 (gI qs t + 1)] = (qs.set t (gI qs t + 1)).map sqV := by rw [List.map_set]; rfl
  have hy : ((qs.set t (gI qs t + 1)).map sqV)[t]? = some [.int .u64 (gI qs t + 1)] := by rw [← hset, List.getElem?_set_self (by simpa using ht)]
  have htn : t < n := by omega
  have hw : IntKind.u64.wrap (arith BinOp.add (gI qs t) 1) = gI qs t + 1 := u64_eq (x := gI qs t + 1) (by omega) (by omega)
  generalize gI qs t = x at *
  refine spec_intro [] _ Tryd.func34 rfl Tryd.ntmps34 (by rfl) (fun w0 R => ?_)
  refine ok_learn (rowShapeS (e := 57) (n := 3) (v := u) (xs := outs.map outV) (by decide) takeD) ?_
  rintro ⟨pu, cu, rfl, hcu, hsu⟩
  repeat' (first | (refine go_Y ?_; intros) | (refine gs_Y ?_ ?_ <;> (intro hgd; try (simp only [Bool.not_true, Bool.not_false] at hgd))) | (refine gc_Y ?_ ?_ <;> intro _) | fail)
  rw [hw, hset]
  (apply ok_draw [7]; (focus (kernel_rfl)); (focus ((conv => lhs; whnf); first | done | rfl)); (focus (decide +kernel)); (focus (exact (fun _ h => h))))
  repeat' (first | (refine go_Y ?_; intros) | (refine gs_Y ?_ ?_ <;> (intro hgd; try (simp only [Bool.not_true, Bool.not_false] at hgd))) | (refine gc_Y ?_ ?_ <;> intro _) | fail)
  rename_i v1 hv1 v2 hv2
  rw [outV_app]
  (refine rt_Y (y := ⟨v2, hv2⟩) (hrs := Tryd.results34) (hv := ?_) (hφ := ?_))
  · rfl
  · trivial
end Go.Proofs.YtphaegcoldpclaaDoor
