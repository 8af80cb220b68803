/- THE FRAMEWORK, PART P: texts appended to bytes; unsafe pointers, unsafe.String; iterators that use up what they hold. -/
import Derived.Test.YtgmobpngcilgjaaFwO
import Derived.Lib.Builder
import Derived.Lib.UnsafeStr
import Derived.Laws.Externs
set_option linter.unusedSimpArgs false
set_option linter.unusedVariables false
namespace Go.Fx
open Go

/-- A text's bytes, as elements. -/
def bytesV (s : ByteArray) : List (List Value) := s.data.toList.map fun b => [.int .u8 (b.toNat : Int)]
theorem bytesV_good (s : ByteArray) : good 1 (bytesV s) := by
  intro x hx
  obtain ⟨b, _, rfl⟩ := List.mem_map.1 hx
  exact ⟨rfl, rfl⟩
theorem bytesV_len (s : ByteArray) : (bytesV s).length = s.size := by simp [bytesV]
theorem bytesV_flat (s : ByteArray) : (bytesV s).flatten = byteCells s := by
  unfold bytesV byteCells
  generalize s.data.toList = l
  induction l with
  | nil => rfl
  | cons y l ih => simp [ih]
theorem bytesV_app (s t : ByteArray) : bytesV s ++ bytesV t = bytesV (s ++ t) := by
  simp [bytesV]
theorem bytesV_nil : bytesV ⟨#[]⟩ = [] := rfl

section
variable {X : Cx} {ops : Array Oper} {nb : List Nat} {N : Act → World → Prop} {i : Nat} {os : List Oper} {Ls : List HProp} {ds : List Deferred} {ρ : Regs} {L : List HProp} {ty : TypeId} {d : Nat}

theorem e_append_src {t tx e n by_ : Nat} {zs : List Value} [I : Sl X.P t e n by_ zs] {s x : Operand} {v u : Value} {xs ys : List (List Value)} {R : List HProp} {d : Option Nat}
    (hz : Nat.beq zs.length n = true) (hs : ev ρ s = v) (hx : ev ρ x = u) (hsel : Sel L (row e n v xs) R) (gy : good n ys) (hsr : ∀ w, Sats X.w0 w R → Src X.P n tx u ys.length ys.flatten w) (hb : (xs.length + ys.length) * by_ ≤ 140737488355328) (hb' : xs.length + ys.length ≤ 4611686018427387904) :
    Eff X d (.call { callee := .builtin .append, args := #[s, x], argTypes := #[t, tx] }) ty ρ L Value (fun v' => v'.oneCell' = true) (fun v' => v') (fun v' => row e n v' (xs ++ ys) :: R) := by
  subst hs hx
  refine ⟨(fun _ e => by cases e), fun pos after gd => ⟨rfl, fun w hw => ?_⟩⟩
  obtain ⟨ht, k, z, hk, hkz, rfl, rfl, hzc⟩ := I.get
  have hzs : z.cells.size = k.size := by rw [← Nat.eq_of_beq_eq_true hz, ← hzc]; simp
  have hw1 := hw.sel hsel
  obtain ⟨h1, h2, ha, l1, l2, ⟨g, hrow⟩, hR⟩ := hw1.heap
  have hsrc := hsr w (hw1.map fun _ hh => hh.tail)
  have hop : execOp (ev ρ) ⟨d, .call { callee := .builtin .append, args := #[s, x], argTypes := #[t, tx] }, ty, pos, after, gd⟩ = (do pure (.value (← Builtin.append_ #[t, tx] ty #[ev ρ s, ev ρ x]))) := by
    simp [execOp, resolve, invoke, builtin]
  have fin : ∀ {v' : Value} {w' : World}, v'.oneCell' = true → (Builtin.append_ #[t, tx] ty #[ev ρ s, ev ρ x]).run X.P w = .ok v' w' → Sats X.w0 w' (row e k.size v' (xs ++ ys) :: R) →
      OpVal X.P ⟨d, .call { callee := .builtin .append, args := #[s, x], argTypes := #[t, tx] }, ty, pos, after, gd⟩ (ev ρ) w fun u' w' => ∃ y : Value, y.oneCell' = true ∧ u' = y ∧ Sats X.w0 w' (row e k.size y (xs ++ ys) :: R) := by
    intro v' w' h1' hrun hs'
    unfold OpVal
    rw [hop]
    simp only [Sem.run_bind, hrun, Result.andThen_ok, Sem.run_pure]
    exact ⟨v', h1', rfl, hs'⟩
  have grow : ∀ (p : Option Addr) (cap : Nat), ev ρ s = .slice p xs.length cap → cap < xs.length + ys.length → (Builtin.firstCells k.size xs.length (.slice p xs.length cap)).run X.P w.drew = .ok xs.flatten.toArray w.drew →
      OpVal X.P ⟨d, .call { callee := .builtin .append, args := #[s, x], argTypes := #[t, tx] }, ty, pos, after, gd⟩ (ev ρ) w fun u' w' => ∃ y : Value, y.oneCell' = true ∧ u' = y ∧ Sats X.w0 w' (row e k.size y (xs ++ ys) :: R) := by
    intro p cap hp hlt hold
    have hrun := run_append_grow_src (P := X.P) w t tx ty e k z ht hk hkz p xs.length cap xs.flatten hold (ev ρ x) ys.length ys.flatten hsrc hlt (by omega) (growslice_fits hlt hb)
    rw [← hp] at hrun
    refine fin rfl hrun ?_
    have hs0 : Sats X.w0 w R := hw1.map fun _ hh => hh.tail
    have hs1 := hs0.drew.alloc (.cells ((xs.flatten ++ ys.flatten).toArray ++ Builtin.zeroCells z.cells (grownCap w (xs.length + ys.length) cap e - (xs.length + ys.length))) e)
    refine hs1.map fun _ hh => hh.headMono fun _ hp' => ⟨g.append gy, .inr ⟨w.heap.size, _, (Builtin.zeroCells z.cells (grownCap w (xs.length + ys.length) cap e - (xs.length + ys.length))).toList, by rw [List.length_append], ?_, ?_⟩⟩
    · have hge := grownCap_ge w (xs.length + ys.length) cap e
      simp only [List.length_append, List.flatten_append, g.flatten_length, gy.flatten_length, Array.length_toList, size_zeroCells, hzs, ← Nat.add_mul]
      congr 1
      omega
    · have e1 : ((xs ++ ys).flatten ++ (Builtin.zeroCells z.cells (grownCap w (xs.length + ys.length) cap e - (xs.length + ys.length))).toList).toArray = (xs.flatten ++ ys.flatten).toArray ++ Builtin.zeroCells z.cells (grownCap w (xs.length + ys.length) cap e - (xs.length + ys.length)) := by
        apply Array.ext'; simp
      rw [e1]
      exact hp'
  rcases hrow with ⟨hnil, rfl⟩ | ⟨b, cap, rest, hv', hl, hbk⟩
  · by_cases hy : ys = []
    · subst hy
      have hrun : (Builtin.append_ #[t, tx] ty #[ev ρ s, ev ρ x]).run X.P w = .ok (.slice none 0 0) w := by
        rw [hnil]
        have h3 := hsrc.len w
        have h4 := hsrc.cells
        simp only [List.length_nil] at h3 h4
        rcases hsrc.kind with ⟨e', hk'⟩ | hk' <;> simp [Builtin.append_, run_underlying ht, run_underlying hk', sizeOf, typeInfo, hk, h3, h4]
      refine fin rfl hrun ?_
      refine hw1.map fun _ hh => hh.headMono fun _ _ => ⟨by simpa using g, .inl ⟨rfl, by simp⟩⟩
    · refine grow none 0 hnil ?_ ?_
      · have := List.length_pos_iff.2 hy
        simp; omega
      · exact run_firstCells_none w.drew _ _ _ _
  · have hbw : w.heap[b]? = some (.cells (xs.flatten ++ rest).toArray e) := l1 _ _ hbk
    by_cases hroom : xs.length + ys.length ≤ cap
    · have hle : xs.flatten.length + ys.flatten.length ≤ (xs.flatten ++ rest).length := by
        rw [hl, g.flatten_length, gy.flatten_length, ← Nat.add_mul]
        exact Nat.mul_le_mul_right _ hroom
      have hs2 : Sats X.w0 w (pts b (.cells (xs.flatten ++ rest).toArray e) :: R) := ⟨hw1.os, hw1.tape, hw1.output, hw1.size, ⟨h1, h2, ha, l1, l2, hbk, hR⟩⟩
      obtain ⟨w', hst, hs'⟩ := storeCells_list (P := X.P) ys.flatten 0 (xs.length * k.size) (xs.flatten ++ rest) R Sel.here hs2 gy.one (by rw [← g.flatten_length]; omega)
      have hrun : (Builtin.append_ #[t, tx] ty #[ev ρ s, ev ρ x]).run X.P w = .ok (.slice (some ⟨b, 0, none⟩) (xs.length + ys.length) cap) w' := by
        rw [hv']
        have h3 := hsrc.len w
        have h4 := hsrc.cells
        rcases hsrc.kind with ⟨e', hk'⟩ | hk' <;>
          simp [Builtin.append_, run_underlying ht, run_underlying hk', sizeOf, typeInfo, hk, h3, h4, hroom, Addr.add_lit, hst]
      refine fin rfl hrun ?_
      refine hs'.map fun _ hh => hh.headMono fun _ hp' => ⟨g.append gy, .inr ⟨b, cap, rest.drop ys.flatten.length, by rw [List.length_append], ?_, ?_⟩⟩
      · simp only [List.length_append] at hl hle ⊢
        simp only [List.flatten_append, List.length_append, List.length_drop]
        omega
      · have e1 : (xs ++ ys).flatten ++ rest.drop ys.flatten.length = (xs.flatten ++ rest).take (xs.length * k.size + 0) ++ ys.flatten ++ (xs.flatten ++ rest).drop (xs.length * k.size + 0 + ys.flatten.length) := by
          rw [Nat.add_zero, ← g.flatten_length, List.take_left, List.flatten_append, List.append_assoc, ← List.drop_drop, List.drop_left, List.append_assoc]
        rw [e1]
        exact hp'
    · refine grow _ cap hv' (by omega) ?_
      refine run_firstCells_some w.drew _ _ _ _ _ _ g.flatten_length ?_
      intro j u hj
      rw [add_plain]
      exact cell_of_heap (w := w.drew) (cs := (xs.flatten ++ rest).toArray) hbw (by rw [Nat.zero_add, List.getElem?_toArray, List.getElem?_append_left (List.getElem?_eq_some_iff.1 hj).1]; exact hj)

/-- 'append(b, s...)', s a text. -/
theorem s_append_str {t tx e by_ : Nat} {zs : List Value} [I : Sl X.P t e 1 by_ zs] [J : Ty X.P tx .string] {s x : Operand} {v : Value} {u : ByteArray} {xs : List (List Value)} {R : List HProp}
    (hz : Nat.beq zs.length 1 = true) (hs : ev ρ s = v) (hx : ev ρ x = .string u) (hsel : Sel L (row e 1 v xs) R) (hb : (xs.length + u.size) * by_ ≤ 140737488355328) (hb' : xs.length + u.size ≤ 4611686018427387904) (hd : Nat.blt d X.nt = true) (hnb : nb.contains i = false)
    (h : ∀ v', v'.oneCell' = true → OpsL X ops nb N (i + 1) os (row e 1 v' (xs ++ bytesV u) :: R) ds (upd ρ d v') (row e 1 v' (xs ++ bytesV u) :: R)) : Op1 X ops nb N i (some d) (.call { callee := .builtin .append, args := #[s, x], argTypes := #[t, tx] }) ty os Ls ds ρ L :=
  op_eff (e_append_src hz hs hx hsel (bytesV_good u) (fun w _ => by rw [bytesV_len, bytesV_flat]; exact Src.ofString w J.und u) (by rw [bytesV_len]; exact hb) (by rw [bytesV_len]; exact hb')) (fun _ e => by cases e; exact hd) hnb h

theorem s_store_nb {t : TypeId} {n : Nat} [I : Sz X.P t n] {a x : Operand} {b o : Nat} {cs cs' vs : List Value} {T : TypeId} {R : List HProp} {v : Value}
    (hx : ev ρ a = .pointer (some ⟨b, o, none⟩)) (hv : ev ρ x = v) (hvs : v.cells.toList = vs) (hsel : Sel L (pts b (.cells cs.toArray T)) R) (h1 : oneCells vs = true) (hn : Nat.beq vs.length n = true) (hl : Nat.ble (o + n) cs.length = true)
    (hcs : cs.take o ++ vs ++ cs.drop (o + n) = cs') (hk : ∀ h, SatL (pts b (.cells cs'.toArray T) :: R) h → SatL Ls h)
    (h : OpsL X ops nb N (i + 1) os Ls ds ρ (pts b (.cells cs'.toArray T) :: R)) : Op1 X ops nb N i none (.store t a x) ty os Ls ds ρ L :=
  op_eff_nb (e_store hx hv hvs hsel h1 hn hl hcs) (fun _ e => by cases e) (fun _ _ => hk) fun _ _ => h

/-! ### unsafe -/
theorem s_toUnsafe {s t e n : Nat} [I : Ty X.P s (.pointer e)] [J : Ty X.P t .unsafePointer] [K : Sz X.P e n] {x : Operand} {b o : Nat} {cs : Array Value} {T : TypeId} {fr : Nat × Nat} (hx : ev ρ x = .pointer (some ⟨b, o, none⟩)) (hc : (X.cv.contains s || X.cv.contains t) = true) (hn : Nat.beq n 0 = false)
    (hr : RdIn L b (.cells cs T fr)) (ho : o < cs.size) (hd : Nat.blt d X.nt = true) (hb : nb.contains i = false)
    (h : OpsL X ops nb N (i + 1) os L ds (upd ρ d (.pointer (some ⟨b, o, none⟩))) L) : Op1 X ops nb N i (some d) (.convert s t x) ty os Ls ds ρ L := by
  refine op_eff (Y := Unit) (φ := fun _ => True) (v := fun _ => .pointer (some ⟨b, o, none⟩)) (L' := fun _ => L) ⟨(fun _ e => by cases e), fun pos after gd => ⟨by simp only [qk, hc]; simp, fun w hs => ?_⟩⟩ (fun _ e => by cases e; exact hd) hb fun _ _ => h
  obtain ⟨k, hk, hks⟩ : ∃ k, X.P.info? e = some k ∧ k.size = n := by
    have := K.size
    cases hi : X.P.info? e with
    | none => rw [hi] at this; cases this
    | some k => rw [hi] at this; exact ⟨k, rfl, by simpa using this⟩
  have hn' : n ≠ 0 := fun e => by subst e; simp at hn
  have hrun := Lib.run_to_unsafe (P := X.P) w (⟨b, o, none⟩ : Addr) I.und J.und hk (by rw [hks]; exact hn') (shape_of (hr.heap hs)) ho
  unfold OpVal
  simp only [execOp, hx, Sem.run_bind, hrun, Result.andThen_ok, Sem.run_pure]
  exact ⟨(), trivial, trivial, hs⟩

theorem s_fromUnsafe {s t u n : Nat} [I : Ty X.P s .unsafePointer] [J : Ty X.P t (.pointer u)] [K : Sz X.P u n] {x : Operand} {b o : Nat} {cs : Array Value} {T : TypeId} {fr : Nat × Nat} (hx : ev ρ x = .pointer (some ⟨b, o, none⟩)) (hc : (X.cv.contains s || X.cv.contains t) = true)
    (hr : RdIn L b (.cells cs T fr)) (ho : liesAt X.P X.P.depth T (cs.size / X.P.cellsOf T) o u 1 = true) (hd : Nat.blt d X.nt = true) (hb : nb.contains i = false)
    (h : OpsL X ops nb N (i + 1) os L ds (upd ρ d (.pointer (some ⟨b, o, none⟩))) L) : Op1 X ops nb N i (some d) (.convert s t x) ty os Ls ds ρ L := by
  refine op_eff (Y := Unit) (φ := fun _ => True) (v := fun _ => .pointer (some ⟨b, o, none⟩)) (L' := fun _ => L) ⟨(fun _ e => by cases e), fun pos after gd => ⟨by simp only [qk, hc]; simp, fun w hs => ?_⟩⟩ (fun _ e => by cases e; exact hd) hb fun _ _ => h
  obtain ⟨k, hk, hks⟩ : ∃ k, X.P.info? u = some k ∧ k.size = n := by
    have := K.size
    cases hi : X.P.info? u with
    | none => rw [hi] at this; cases this
    | some k => rw [hi] at this; exact ⟨k, rfl, by simpa using this⟩
  have hrun := Lib.run_from_unsafe (P := X.P) w (⟨b, o, none⟩ : Addr) I.und J.und hk (shape_of (hr.heap hs)) ho
  unfold OpVal
  simp only [execOp, hx, Sem.run_bind, hrun, Result.andThen_ok, Sem.run_pure]
  exact ⟨(), trivial, trivial, hs⟩

/-- A function without a body that hands back its argument. -/
class SameI (P : Program) (f : FuncId) : Prop where
  call : ∀ x w, (callFunc f #[x]).run P w = .ok (.value x) w
theorem s_same {f : FuncId} [K : SameI X.P f] {x : Operand} {at_ : Array TypeId} {v : Value} (hx : ev ρ x = v) (hd : Nat.blt d X.nt = true) (hb : nb.contains i = false)
    (h : OpsL X ops nb N (i + 1) os L ds (upd ρ d v) L) : Op1 X ops nb N i (some d) (.call { callee := .value (.func f), args := #[x], argTypes := at_ }) ty os Ls ds ρ L := by
  refine op_eff (Y := Unit) (φ := fun _ => True) (v := fun _ => v) (L' := fun _ => L) ⟨(fun _ e => by cases e), fun pos after gd => ⟨rfl, fun w hs => ?_⟩⟩ (fun _ e => by cases e; exact hd) hb fun _ _ => h
  unfold OpVal
  have e1 : (#[x].map (ev ρ)) = #[v] := by simp [hx]
  simp only [execOp, resolve, ev, Deferred.ofValue, invoke, Sem.run_bind, Sem.run_pure, Result.andThen_ok, Array.append_empty, Array.empty_append, e1, K.call]
  exact ⟨(), trivial, trivial, hs⟩

theorem s_sliceData_nil {x : Operand} {at_ : Array TypeId} {n c : Nat} (hx : ev ρ x = .slice none n c) (hd : Nat.blt d X.nt = true) (hb : nb.contains i = false)
    (h : OpsL X ops nb N (i + 1) os L ds (upd ρ d (.pointer none)) L) : Op1 X ops nb N i (some d) (.call { callee := .builtin .unsafeSliceData, args := #[x], argTypes := at_ }) ty os Ls ds ρ L := by
  refine op_eff (Y := Unit) (φ := fun _ => True) (v := fun _ => .pointer none) (L' := fun _ => L) ⟨(fun _ e => by cases e), fun pos after gd => ⟨rfl, fun w hs => ?_⟩⟩ (fun _ e => by cases e; exact hd) hb fun _ _ => h
  have hrun := Lib.run_unsafeSliceData_nil (P := X.P) w at_ ty n c
  unfold OpVal
  simp [execOp, resolve, invoke, builtin, hx, hrun]
  exact hs
theorem s_sliceData_row {x : Operand} {at_ : Array TypeId} {a : Addr} {n c : Nat} (hx : ev ρ x = .slice (some a) n c) (hc : c ≠ 0) (hd : Nat.blt d X.nt = true) (hb : nb.contains i = false)
    (h : OpsL X ops nb N (i + 1) os L ds (upd ρ d (.pointer (some a))) L) : Op1 X ops nb N i (some d) (.call { callee := .builtin .unsafeSliceData, args := #[x], argTypes := at_ }) ty os Ls ds ρ L := by
  refine op_eff (Y := Unit) (φ := fun _ => True) (v := fun _ => .pointer (some a)) (L' := fun _ => L) ⟨(fun _ e => by cases e), fun pos after gd => ⟨rfl, fun w hs => ?_⟩⟩ (fun _ e => by cases e; exact hd) hb fun _ _ => h
  have hrun := Lib.run_unsafeSliceData_row (P := X.P) w at_ ty a n c hc
  unfold OpVal
  simp [execOp, resolve, invoke, builtin, hx, hrun]
  exact hs
theorem s_sliceData_zero {e : Nat} [I : Ty X.P ty (.pointer e)] {x : Operand} {at_ : Array TypeId} {b n : Nat} {cs : Array Value} {T : TypeId} {fr : Nat × Nat} (hx : ev ρ x = .slice (some ⟨b, 0, none⟩) n 0) (hr : RdIn L b (.cells cs T fr)) (hd : Nat.blt d X.nt = true) (hb : nb.contains i = false)
    (h : ∀ b', OpsL X ops nb N (i + 1) os L ds (upd ρ d (.pointer (some ⟨b', 0, none⟩))) L) : Op1 X ops nb N i (some d) (.call { callee := .builtin .unsafeSliceData, args := #[x], argTypes := at_ }) ty os Ls ds ρ L := by
  refine op_eff (Y := Nat) (φ := fun _ => True) (v := fun b' => .pointer (some ⟨b', 0, none⟩)) (L' := fun _ => L) ⟨(fun _ e => by cases e), fun pos after gd => ⟨rfl, fun w hs => ?_⟩⟩ (fun _ e => by cases e; exact hd) hb fun b' _ => h b'
  have hrun := Lib.run_unsafeSliceData_zero (P := X.P) w at_ ty e I.und ⟨b, 0, none⟩ n _ (shape_of (hr.heap hs))
  unfold OpVal
  simp [execOp, resolve, invoke, builtin, hx, hrun]
  exact (hs.alloc _).map fun _ hh => hh.tail
theorem s_sliceData_nil_nb {x : Operand} {at_ : Array TypeId} {n c : Nat} (hx : ev ρ x = .slice none n c) (hd : Nat.blt d X.nt = true) (hk : ∀ h, SatL L h → SatL Ls h)
    (h : OpsL X ops nb N (i + 1) os Ls ds (upd ρ d (.pointer none)) L) : Op1 X ops nb N i (some d) (.call { callee := .builtin .unsafeSliceData, args := #[x], argTypes := at_ }) ty os Ls ds ρ L := by
  refine op_eff_nb (Y := Unit) (φ := fun _ => True) (v := fun _ => .pointer none) (L' := fun _ => L) ⟨(fun _ e => by cases e), fun pos after gd => ⟨rfl, fun w hs => ?_⟩⟩ (fun _ e => by cases e; exact hd) (fun _ _ => hk) fun _ _ => h
  have hrun := Lib.run_unsafeSliceData_nil (P := X.P) w at_ ty n c
  unfold OpVal
  simp [execOp, resolve, invoke, builtin, hx, hrun]
  exact hs
theorem s_sliceData_row_nb {x : Operand} {at_ : Array TypeId} {a : Addr} {n c : Nat} (hx : ev ρ x = .slice (some a) n c) (hc : c ≠ 0) (hd : Nat.blt d X.nt = true) (hk : ∀ h, SatL L h → SatL Ls h)
    (h : OpsL X ops nb N (i + 1) os Ls ds (upd ρ d (.pointer (some a))) L) : Op1 X ops nb N i (some d) (.call { callee := .builtin .unsafeSliceData, args := #[x], argTypes := at_ }) ty os Ls ds ρ L := by
  refine op_eff_nb (Y := Unit) (φ := fun _ => True) (v := fun _ => .pointer (some a)) (L' := fun _ => L) ⟨(fun _ e => by cases e), fun pos after gd => ⟨rfl, fun w hs => ?_⟩⟩ (fun _ e => by cases e; exact hd) (fun _ _ => hk) fun _ _ => h
  have hrun := Lib.run_unsafeSliceData_row (P := X.P) w at_ ty a n c hc
  unfold OpVal
  simp [execOp, resolve, invoke, builtin, hx, hrun]
  exact hs
theorem s_sliceData_zero_nb {e : Nat} [I : Ty X.P ty (.pointer e)] {x : Operand} {at_ : Array TypeId} {b n ee k : Nat} {xs : List (List Value)} {R : List HProp} (hx : ev ρ x = .slice (some ⟨b, 0, none⟩) n 0) (hr : Sel L (row ee k (.slice (some ⟨b, 0, none⟩) n 0) xs) R) (hd : Nat.blt d X.nt = true) (hk : ∀ h, SatL L h → SatL Ls h)
    (h : ∀ b', OpsL X ops nb N (i + 1) os Ls ds (upd ρ d (.pointer (some ⟨b', 0, none⟩))) L) : Op1 X ops nb N i (some d) (.call { callee := .builtin .unsafeSliceData, args := #[x], argTypes := at_ }) ty os Ls ds ρ L := by
  refine op_eff_nb (Y := Nat) (φ := fun _ => True) (v := fun b' => .pointer (some ⟨b', 0, none⟩)) (L' := fun _ => L) ⟨(fun _ e => by cases e), fun pos after gd => ⟨rfl, fun w hs => ?_⟩⟩ (fun _ e => by cases e; exact hd) (fun _ _ => hk) fun b' _ => h b'
  have hs1 := hs.sel hr
  obtain ⟨f1, f2, ha, l1, l2, ⟨g, hrow⟩, hR⟩ := hs1.heap
  rcases hrow with ⟨hn, _⟩ | ⟨b', cap', rest, hv', hl, hbk⟩
  · cases hn
  simp only [Value.slice.injEq, Option.some.injEq, Addr.mk.injEq, and_true] at hv'
  obtain ⟨hbb, hlen, hcc⟩ := hv'
  subst hbb
  have hrun := Lib.run_unsafeSliceData_zero (P := X.P) w at_ ty e I.und ⟨b, 0, none⟩ n _ (shape_of (l1 _ _ hbk))
  unfold OpVal
  simp [execOp, resolve, invoke, builtin, hx, hrun]
  exact (hs.alloc _).map fun _ hh => hh.tail
theorem s_unsafeString_none {x y : Operand} {pt it : TypeId} {p : Option Addr} (hx : ev ρ x = .pointer p) (hy : ev ρ y = .int .i64 0) (hd : Nat.blt d X.nt = true) (hb : nb.contains i = false)
    (h : OpsL X ops nb N (i + 1) os L ds (upd ρ d (.string ⟨#[]⟩)) L) : Op1 X ops nb N i (some d) (.call { callee := .builtin .unsafeString, args := #[x, y], argTypes := #[pt, it] }) ty os Ls ds ρ L := by
  refine op_eff (Y := Unit) (φ := fun _ => True) (v := fun _ => .string ⟨#[]⟩) (L' := fun _ => L) ⟨(fun _ e => by cases e), fun pos after gd => ⟨rfl, fun w hs => ?_⟩⟩ (fun _ e => by cases e; exact hd) hb fun _ _ => h
  have hrun := Lib.run_unsafeString_none (P := X.P) w pt it ty p
  unfold OpVal
  simp [execOp, resolve, invoke, builtin, hx, hy, hrun]
  exact ⟨rfl, hs⟩
/-- The bytes of one's own row, as a text; the row is gone. -/
theorem s_unsafeString_row {e : Nat} {x y : Operand} {pt it : TypeId} [I : Ty X.P pt (.pointer e)] {b cap : Nat} {s : ByteArray} {R : List HProp} {m : Int} (hx : ev ρ x = .pointer (some ⟨b, 0, none⟩)) (hy : ev ρ y = .int .i64 m) (hm : m = (s.size : Int)) (hc : X.P.cellsOf e = 1) (h0 : s.size ≠ 0) (h63 : s.size ≤ 9223372036854775807)
    (hsel : Sel L (row e 1 (.slice (some ⟨b, 0, none⟩) s.size cap) (bytesV s)) R) (hd : Nat.blt d X.nt = true) (hb : nb.contains i = false)
    (h : OpsL X ops nb N (i + 1) os R ds (upd ρ d (.string s)) R) : Op1 X ops nb N i (some d) (.call { callee := .builtin .unsafeString, args := #[x, y], argTypes := #[pt, it] }) ty os Ls ds ρ L := by
  refine op_eff (Y := Unit) (φ := fun _ => True) (v := fun _ => .string s) (L' := fun _ => R) ⟨(fun _ e => by cases e), fun pos after gd => ⟨rfl, fun w hs => ?_⟩⟩ (fun _ e => by cases e; exact hd) hb fun _ _ => h
  subst hm
  have hs1 := hs.sel hsel
  obtain ⟨f1, f2, ha, l1, l2, ⟨g, hrow⟩, hR⟩ := hs1.heap
  rcases hrow with ⟨hn, _⟩ | ⟨b', cap', rest, hv', hl, hbk⟩
  · cases hn
  simp only [Value.slice.injEq, Option.some.injEq, Addr.mk.injEq, and_true] at hv'
  obtain ⟨hbb, hlen, hcc⟩ := hv'
  subst hbb hcc
  have hfl := g.flatten_length
  rw [bytesV_len, Nat.mul_one] at hfl
  have hbw := l1 _ _ hbk
  have hsz : s.data.toList.length = s.size := by simp
  have hrun := Lib.run_unsafeString_row (P := X.P) w pt it ty e I.und hc b _ (shape_of hbw) s.data.toList (by intro h; rw [h] at hsz; exact h0 hsz.symm)
    (by rw [hsz]; simp only [List.size_toArray, List.length_append]; omega) (by omega) (by
      intro j x hj
      rw [add_plain, Nat.zero_add]
      refine cell_of_heap hbw ?_
      rw [List.getElem?_toArray, bytesV_flat, List.getElem?_append_left (by unfold byteCells; rw [List.length_map]; exact (List.getElem?_eq_some_iff.1 hj).1)]
      simp [byteCells, hj])
  rw [hsz] at hrun
  have e2 : (⟨s.data.toList.toArray⟩ : ByteArray) = s := rfl
  have hne : ∀ k, k ≠ b → (w.freeze ⟨b, 0, none⟩ s.size).heap[k]? = w.heap[k]? := by
    intro k hk
    unfold World.freeze
    rw [if_neg h0]
    simp only [Array.getElem?_modify]
    rw [if_neg (by omega)]
  have hfz : ∃ o', (w.freeze ⟨b, 0, none⟩ s.size).heap[b]? = some o' := by
    unfold World.freeze
    rw [if_neg h0]
    simp only [Array.getElem?_modify, if_true, hbw]
    exact ⟨_, rfl⟩
  obtain ⟨o', ho'⟩ := hfz
  have hs2 : Sats X.w0 w (pts b (.cells ((bytesV s).flatten ++ rest).toArray e) :: R) := ⟨hs1.os, hs1.tape, hs1.output, hs1.size, ⟨f1, f2, ha, l1, l2, hbk, hR⟩⟩
  have hs3 := hs2.update (w' := w.freeze ⟨b, 0, none⟩ s.size) (o' := o') (by unfold World.freeze; rw [if_neg h0]) (by unfold World.freeze; rw [if_neg h0]) (by unfold World.freeze; rw [if_neg h0]) (by unfold World.freeze; rw [if_neg h0]; simp) ho' hne
  unfold OpVal
  simp [execOp, resolve, invoke, builtin, hx, hy, hrun]
  exact hs3.map fun _ hh => hh.tail
end

/-- The contract of an iterator: it hands these to a yield, one by one, till it is told to stop; 'A' becomes A'. -/
def IterSpecX (P : Program) (f : FuncId) (cap : List Value) (A A' : List HProp) {α : Type} (xs : List α) (enc : α → List Value) : Prop :=
  ∀ (yv : Value) (St Sp : List α → HProp) (go : List α → Bool),
    (∀ pre p, pre ++ [p] <+: xs → VSpec P yv (enc p) [St pre] Unit (fun _ => True) (fun _ => .bool (go (pre ++ [p]))) (fun _ => [if go (pre ++ [p]) then St (pre ++ [p]) else Sp (pre ++ [p])])) →
    FSpec P f (yv :: cap) (A ++ [St []]) Unit (fun _ => True) (fun _ => .tuple #[]) (fun _ => (if (eat go [] xs).2 then St (eat go [] xs).1 else Sp (eat go [] xs).1) :: A')


section
variable {X : Cx} {ds : List Deferred} {ρ : Regs} {L : List HProp}
/-- A range over a function, by the contract of its iterator. -/
theorem ok_rangeX {α : Type} {xs : List α} {enc : α → List Value} {f : FuncId} {cap : List Value} {A A' L1 R' : List HProp} {g : Operand} {params : Array Tmp} {assign body : Code} {Q : Exit → Act → World → Prop} [F : FnI X.P f]
    (go : List α → Bool) (K : List α → List HProp) (jp : List α → Code) (it : IterSpecX X.P f cap A A' xs enc) (hr : X.r = none) (hg : ev ρ g = .func (.func f) #[] cap.toArray)
    (ht : Take L A L1) (hK : ∀ h, SatL L1 h → SatL (K [] ++ R') h) (hlen : ∀ p, (enc p).length = params.size) (hps : params.toList.all (Nat.blt · X.nt) = true)
    (round : ∀ l pre p, pre ++ [p] <+: xs → ∀ (w0 : World) (R : List HProp) (LP0 LP1 : HProp) (QB QE : Exit → Act → World → Prop),
      (∀ {ds ρ' L L'}, Take L [LP0] L' → Ok ⟨X.P, some l, X.nt, w0, X.cv⟩ body ds ρ' (LP1 :: L') QE → Cont ⟨X.P, some l, X.nt, w0, X.cv⟩ QB .normal ds ρ' L) →
      (∀ {ds ρ' L L'}, go (pre ++ [p]) = true → Take L [LP1] L' → (∀ h, SatL L' h → SatL (K (pre ++ [p]) ++ R) h) → Cont ⟨X.P, some l, X.nt, w0, X.cv⟩ QE .normal ds ρ' L) →
      (∀ {ds ρ' L L' id}, go (pre ++ [p]) = false → jp (pre ++ [p]) = .exit id → Take L [LP1] L' → (∀ h, SatL L' h → SatL (K (pre ++ [p]) ++ R) h) → Cont ⟨X.P, some l, X.nt, w0, X.cv⟩ QE (.exit id) ds ρ' L) →
      (∀ {ds ρ' L L'}, go (pre ++ [p]) = false → jp (pre ++ [p]) = .ret → Take L [LP1] L' → (∀ h, SatL L' h → SatL (K (pre ++ [p]) ++ R) h) → Cont ⟨X.P, some l, X.nt, w0, X.cv⟩ QE .ret ds ρ' L) →
      Ok ⟨X.P, some l, X.nt, w0, X.cv⟩ assign [] (updMany ρ (params.toList.zip (enc p))) (LP0 :: K pre ++ R) QB)
    (done : ∀ dk, (eat go [] xs).2 = true → Cont X Q .normal (mark dk :: ds) ρ (marked dk :: K xs ++ (A' ++ R')))
    (stop : ∀ dk q, eat go [] xs = (q, false) → Ok X (jp q) (mark dk :: ds) ρ (marked dk :: K q ++ (A' ++ R')) Q) : Ok X (.rangeFunc g params assign body) ds ρ L Q := by
  refine ok_rangeFunc hr hg fun dk l => ?_
  have hspec := it (.func (.yield l) #[] #[]) (fun q h => SatL (loopP X.nt ρ params assign body dk l .ready none :: K q) h) (fun q h => SatL (loopP X.nt ρ params assign body dk l .done (some (jp q)) :: K q) h) go (by
    intro pre p hp
    cases hgo : go (pre ++ [p]) with
    | true =>
      refine yield_on X.cv (hlen p) hps fun w0 R => round l pre p hp w0 R _ _ _ _ (fun ht h => cont_round rfl ht h) ?_ ?_ ?_
      · exact fun _ ht hk => cont_round_end () ht rfl hk trivial
      · exact fun e => by rw [hgo] at e; cases e
      · exact fun e => by rw [hgo] at e; cases e
    | false =>
      refine yield_off X.cv (jp (pre ++ [p])) (hlen p) hps fun w0 R => round l pre p hp w0 R _ _ _ _ (fun ht h => cont_round rfl ht h) ?_ ?_ ?_
      · exact fun e => by rw [hgo] at e; cases e
      · exact fun _ e ht hk => cont_round_exit () ht (by rw [e]) hk trivial
      · exact fun _ e ht hk => cont_round_ret () ht (by rw [e]) hk trivial)
  refine ⟨Unit, fun _ => True, _, _, marked dk :: R', _, hspec, ?_, ?_⟩
  · intro h s
    have s1 : SatL (marked dk :: loopP X.nt ρ params assign body dk l .ready none :: (A ++ (K [] ++ R'))) h :=
      (SatL.swap s).consMono fun _ s => s.consMono fun _ s => satL_append_mono A hK (ht.out s)
    have s2 : SatL (marked dk :: (A ++ [fun h => SatL (loopP X.nt ρ params assign body dk l .ready none :: K []) h] ++ R')) h := s1.consMono fun _ s => by
      refine satL_rot A ?_
      have s3 : SatL ((loopP X.nt ρ params assign body dk l .ready none :: K []) ++ (A ++ R')) _ := s.consMono fun _ s => satL_comm A s
      exact SatL.unflat s3
    have := satL_comm [marked dk] (B := A ++ [fun h => SatL (loopP X.nt ρ params assign body dk l .ready none :: K []) h]) (L := R') s2
    exact this
  · intro _ _
    cases hb : (eat go [] xs).2 with
    | true =>
      refine ⟨.ready, none, marked dk :: K xs ++ (A' ++ R'), by simp, ?_, done dk hb⟩
      intro h s
      rw [eat_true hb] at s
      have s1 : SatL ((loopP X.nt ρ params assign body dk l .ready none :: K ([] ++ xs)) ++ (A' ++ marked dk :: R')) h := SatL.flat s
      refine SatL.consMono (A := loopP X.nt ρ params assign body dk l .ready none) s1 fun _ s => ?_
      have s2 := satL_append_mono (K ([] ++ xs)) (fun _ k => satL_comm A' (B := [marked dk]) (L := R') k) s
      exact satL_comm (K ([] ++ xs)) (B := [marked dk]) (L := A' ++ R') s2
    | false =>
      refine ⟨.done, some (jp (eat go [] xs).1), marked dk :: K (eat go [] xs).1 ++ (A' ++ R'), by simp, ?_, stop dk _ (by rw [← hb])⟩
      intro h s
      have s1 : SatL ((loopP X.nt ρ params assign body dk l .done (some (jp (eat go [] xs).1)) :: K (eat go [] xs).1) ++ (A' ++ marked dk :: R')) h := SatL.flat s
      refine SatL.consMono (A := loopP X.nt ρ params assign body dk l .done (some (jp (eat go [] xs).1))) s1 fun _ s => ?_
      have s2 := satL_append_mono (K (eat go [] xs).1) (fun _ k => satL_comm A' (B := [marked dk]) (L := R') k) s
      exact satL_comm (K (eat go [] xs).1) (B := [marked dk]) (L := A' ++ R') s2

end
end Go.Fx
