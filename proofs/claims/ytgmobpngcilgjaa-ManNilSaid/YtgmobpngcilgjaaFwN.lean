/- THE FRAMEWORK, PART N: ranging over maps; min, max; slices of strings; conversions; interfaces. -/
import Derived.Test.YtgmobpngcilgjaaFwM
import Derived.Laws.IdiomStrings
namespace Go.Fx
open Go
open Go.ChangeMaps (setBlock)

/-! ### Range over a map -/
def rangeK (K : KT) (it m : Nat) (l rem : List (K.α × Value)) (cur : Option (K.α × Value)) : HProp := fun h => ∃ es clock seen, h m = some (.map es clock) ∧ MOK K es.toList clock l ∧ h it = some (.mapIter (some m) clock seen clock) ∧
  (es.toList.filter (fun e => !seen.contains e.born)).map (fun e => (e.key, e.val)) = rem.map (fun x => (K.enc x.1, x.2)) ∧ ∀ x, cur = some x → ∃ e ∈ es.toList, ∃ s0, seen = Array.push s0 e.born ∧ e.key = K.enc x.1 ∧ e.val = x.2

theorem rangeK.map {K : KT} {it m : Nat} {l rem : List (K.α × Value)} {cur : Option (K.α × Value)} {h : Frag} (r : rangeK K it m l rem cur h) : mapK K m l h :=
  let ⟨es, clock, _, h1, h2, _⟩ := r; ⟨es, clock, h1, h2⟩

theorem filter_push {es : List MapEntry} {seen : Array Nat} {e : MapEntry} (hn : (es.map (·.born)).Nodup) {pre post : List MapEntry} (h : es.filter (fun e => !seen.contains e.born) = pre ++ e :: post) :
    es.filter (fun x => !(seen.push e.born).contains x.born) = pre ++ post := by
  have h1 : es.filter (fun x => !(seen.push e.born).contains x.born) = (es.filter (fun x => !seen.contains x.born)).filter (fun x => !(x.born == e.born)) := by
    rw [List.filter_filter]
    congr 1
    funext x
    simp only [Array.contains_push, Bool.not_or, Bool.and_comm]
  rw [h1, h]
  have h2 : ((pre ++ e :: post).map (·.born)).Nodup := by rw [← h]; exact hn.sublist ((List.filter_sublist).map _)
  rw [List.map_append, List.map_cons] at h2
  obtain ⟨h3, h4, h5⟩ := List.nodup_append.1 h2
  obtain ⟨h6, h7⟩ := List.nodup_cons.1 h4
  rw [List.filter_append, List.filter_cons]
  simp only [beq_self_eq_true, Bool.not_true, Bool.false_eq_true, if_false]
  congr 1
  · rw [List.filter_eq_self]
    intro x hx
    have := h5 x.born (List.mem_map.2 ⟨x, hx, rfl⟩) e.born (List.mem_cons_self ..)
    simpa using this
  · rw [List.filter_eq_self]
    intro x hx
    have : x.born ≠ e.born := fun he => h6 (he ▸ List.mem_map.2 ⟨x, hx, rfl⟩)
    simpa using this

section
variable {X : Cx} {ops : Array Oper} {nb : List Nat} {N : Act → World → Prop} {i : Nat} {os : List Oper} {Ls : List HProp} {ds : List Deferred} {ρ : Regs} {L : List HProp} {ty : TypeId} {d : Nat}

theorem s_range {mt kt et : Nat} {K : KT} [I : Mp X.P mt kt et] {x : Operand} {m : Nat} {l : List (K.α × Value)} {R : List HProp} (hx : ev ρ x = .map (some m)) (hsel : Sel L (mapK K m l) R) (hd : Nat.blt d X.nt = true) (hb : nb.contains i = false)
    (h : ∀ it, OpsL X ops nb N (i + 1) os (rangeK K it m l l none :: R) ds (upd ρ d (.pointer (some ⟨it, 0, none⟩))) (rangeK K it m l l none :: R)) : Op1 X ops nb N i (some d) (.range mt x) ty os Ls ds ρ L := by
  refine op_eff (Y := Nat) (φ := fun _ => True) (v := fun it => .pointer (some ⟨it, 0, none⟩)) (L' := fun it => rangeK K it m l l none :: R) ⟨(fun _ e => by cases e), fun pos after gd => ⟨rfl, fun w hs => ?_⟩⟩ (fun _ e => by cases e; exact hd) hb fun it _ => h it
  have hs' := hs.sel hsel
  obtain ⟨h1, h2, ha, l1, l2, ⟨es, clock, e, k⟩, hL⟩ := hs'.heap
  have hb : w.heap[m]? = some (.map es clock) := l1 _ _ e
  unfold OpVal
  simp only [execOp, hx, Instr.range, Sem.run_bind, run_underlying_of I.und, Result.andThen_ok, MapKept.run_getObj_map (P := X.P) hb, Sem.run_pure, run_newObj]
  refine ⟨w.heap.size, trivial, rfl, ?_⟩
  have s2 : Sats X.w0 w (pts m (.map es clock) :: R) := ⟨hs'.os, hs'.tape, hs'.output, hs'.size, ⟨h1, h2, ha, l1, l2, e, hL⟩⟩
  refine (s2.alloc (.mapIter (some m) clock #[] clock)).map fun _ hh => ?_
  have h3 : SatL ((fun h => SatL [pts w.heap.size (.mapIter (some m) clock #[] clock), pts m (.map es clock)] h) :: R) _ := SatL.unflat (M := [pts w.heap.size (.mapIter (some m) clock #[] clock), pts m (.map es clock)]) hh
  refine h3.headMono fun f hf => ?_
  have e1 : f w.heap.size = some (.mapIter (some m) clock #[] clock) := (RdIn.here (Rd.pts _ _)).satL hf
  have e2 : f m = some (.map es clock) := (RdIn.there (RdIn.here (Rd.pts _ _))).satL hf
  refine ⟨es, clock, #[], e2, k, e1, ?_, fun x hx => by cases hx⟩
  rw [List.filter_eq_self.2 (by simp)]
  exact k.kv

theorem Sats.rangeObj {w0 w : World} {K : KT} {it m : Nat} {l rem : List (K.α × Value)} {cur : Option (K.α × Value)} {L : List HProp} (s : Sats w0 w (rangeK K it m l rem cur :: L)) :
    ∃ es clock seen, w.heap[m]? = some (.map es clock) ∧ MOK K es.toList clock l ∧ w.heap[it]? = some (.mapIter (some m) clock seen clock) ∧ (es.toList.filter (fun e => !seen.contains e.born)).map (fun e => (e.key, e.val)) = rem.map (fun x => (K.enc x.1, x.2)) ∧
    ∀ (w1 : World) e pre post, (w1 = w ∨ w1 = w.drew) → es.toList.filter (fun e => !seen.contains e.born) = pre ++ e :: post → ∃ x rpre rpost, rem = rpre ++ x :: rpost ∧ e.key = K.enc x.1 ∧ e.val = x.2 ∧
      Sats w0 (setBlock w1 it (.mapIter (some m) clock (seen.push e.born) clock)) (rangeK K it m l (rpre ++ rpost) (some x) :: L) := by
  obtain ⟨h1, h2, ha, l1, l2, ⟨es, clock, seen, e1, k, e2, hr, _⟩, hL⟩ := s.heap
  refine ⟨es, clock, seen, l1 _ _ e1, k, l1 _ _ e2, hr, fun w1 e pre post hw1 hf => ?_⟩
  rw [hf] at hr
  rw [List.map_append, List.map_cons] at hr
  obtain ⟨rpre, rest, hrem, hp1, hp2⟩ := List.map_eq_append_iff.1 hr.symm
  obtain ⟨x, rpost, hrest, hx, hp3⟩ := List.map_eq_cons_iff.1 hp2
  subst hrem hrest
  simp only [Prod.mk.injEq] at hx
  refine ⟨x, rpre, rpost, rfl, hx.1.symm, hx.2.symm, ?_⟩
  have hne : it ≠ m := fun he => by rw [he, e1] at e2; cases e2
  have s1 : Sats w0 w1 (rangeK K it m l (rpre ++ x :: rpost) cur :: L) := by
    rcases hw1 with rfl | rfl
    · exact s
    · exact s.drew
  have hh : w1.heap = w.heap := by rcases hw1 with rfl | rfl <;> rfl
  have hlt : it < w.heap.size := (Array.getElem?_eq_some_iff.1 (l1 _ _ e2 : w.heap[it]? = _)).1
  refine ⟨s1.os, s1.tape, s1.output, by simpa [setBlock] using s1.size, ?_⟩
  refine ⟨fun b => if b = it then some (.mapIter (some m) clock (seen.push e.born) clock) else h1 b, h2, ?_, ?_, ?_, ?_, hL⟩
  · intro b o o' ho ho'
    dsimp only at ho
    split at ho
    · rename_i hb; subst hb; exact ha _ _ _ e2 ho'
    · exact ha _ _ _ ho ho'
  · intro b o ho
    dsimp only at ho
    show ((setBlock w1 it _).heap)[b]? = some o
    simp only [setBlock, hh]
    split at ho
    · rename_i hb; subst hb; cases ho; simp [hlt]
    · rename_i hb
      rw [Array.getElem?_setIfInBounds_ne (Ne.symm hb)]
      exact l1 _ _ ho
  · intro b o ho
    show ((setBlock w1 it _).heap)[b]? = some o
    simp only [setBlock, hh]
    have hb : b ≠ it := fun hb => by subst hb; exact ha _ _ _ e2 ho
    rw [Array.getElem?_setIfInBounds_ne (Ne.symm hb)]
    exact l2 _ _ ho
  · refine ⟨es, clock, seen.push e.born, ?_, k, by simp, ?_, ?_⟩
    · show (if m = it then _ else h1 m) = _
      rw [if_neg (Ne.symm hne)]; exact e1
    · rw [filter_push k.bnd hf, List.map_append, List.map_append, ← hp1, ← hp3]
    · intro y hy
      cases hy
      have hmem : e ∈ es.toList := (List.mem_filter.1 (by rw [hf]; simp : e ∈ es.toList.filter _)).1
      exact ⟨e, hmem, seen, rfl, hx.1.symm, hx.2.symm⟩

theorem s_next {K : KT} {x : Operand} {it m : Nat} {l rem : List (K.α × Value)} {cur : Option (K.α × Value)} {R : List HProp} (hx : ev ρ x = .pointer (some ⟨it, 0, none⟩)) (hsel : Sel L (rangeK K it m l rem cur) R) (hd : Nat.blt d X.nt = true) (hb : nb.contains i = false)
    (h0 : rem = [] → OpsL X ops nb N (i + 1) os (rangeK K it m l rem cur :: R) ds (upd ρ d (.tuple #[.bool false])) (rangeK K it m l rem cur :: R))
    (h1 : ∀ x pre post, rem = pre ++ x :: post → OpsL X ops nb N (i + 1) os (rangeK K it m l (pre ++ post) (some x) :: R) ds (upd ρ d (.tuple #[.bool true, K.enc x.1, x.2])) (rangeK K it m l (pre ++ post) (some x) :: R)) : Op1 X ops nb N i (some d) (.next x false) ty os Ls ds ρ L := by
  refine op_eff (Y := Option ((K.α × Value) × List (K.α × Value) × List (K.α × Value))) (φ := fun y => match y with | none => rem = [] | some (x, pre, post) => rem = pre ++ x :: post)
    (v := fun y => match y with | none => .tuple #[.bool false] | some (x, _, _) => .tuple #[.bool true, K.enc x.1, x.2])
    (L' := fun y => match y with | none => rangeK K it m l rem cur :: R | some (x, pre, post) => rangeK K it m l (pre ++ post) (some x) :: R) ⟨(fun _ e => by cases e), fun pos after gd => ⟨rfl, fun w hs => ?_⟩⟩ (fun _ e => by cases e; exact hd) hb fun y hy => ?_
  · have hs' := hs.sel hsel
    obtain ⟨es, clock, seen, hbm, k, hbi, hr, hstep⟩ := hs'.rangeObj
    unfold OpVal
    rcases run_next_at (P := X.P) w ty it m clock clock seen es clock hbi hbm k.lt (Nat.le_refl _) with ⟨h0', hrun⟩ | ⟨e, he, w1, hw1, hrun⟩
    · simp only [execOp, hx, Sem.run_bind, hrun, Result.andThen_ok, Sem.run_pure]
      have hl : (es.toList.filter (fun e => !seen.contains e.born)) = [] := by
        have : (leftOf es seen).toList = [] := by rw [← List.length_eq_zero_iff]; simpa using h0'
        simpa [leftOf] using this
      rw [hl] at hr
      have hrem : rem = [] := by simpa using hr.symm
      exact ⟨none, hrem, rfl, hs'⟩
    · simp only [execOp, hx, Sem.run_bind, hrun, Result.andThen_ok, Sem.run_pure]
      have he' : e ∈ es.toList.filter (fun e => !seen.contains e.born) := by simpa [leftOf] using he
      obtain ⟨pre, post, hpp⟩ := List.append_of_mem he'
      obtain ⟨y, rpre, rpost, hrem, hk, hv, hsats⟩ := hstep w1 e pre post hw1 hpp
      exact ⟨some (y, rpre, rpost), hrem, by rw [hk, hv], hsats⟩
  · cases y with
    | none => exact h0 hy
    | some y => obtain ⟨x, pre, post⟩ := y; exact h1 x pre post hy

/-- Where a range stands. -/
inductive CurIn (K : KT) (it : Nat) (x : K.α × Value) : List HProp → Prop
  | here {m : Nat} {l rem : List (K.α × Value)} {L : List HProp} : CurIn K it x (rangeK K it m l rem (some x) :: L)
  | there {H : HProp} {L : List HProp} (h : CurIn K it x L) : CurIn K it x (H :: L)

theorem a_entry {K : KT} {x : Operand} {it : Nat} {y : K.α × Value} (hx : ev ρ x = .pointer (some ⟨it, 0, none⟩)) (hc : CurIn K it y Ls) (hd : Nat.blt d X.nt = true)
    (h : OpsL X ops nb N (i + 1) os Ls ds (upd ρ d (.tuple #[K.enc y.1, y.2])) L) : Op1 X ops nb N i (some d) (.entry x) ty os Ls ds ρ L := by
  refine op_quiet (fun _ e => by cases e) (fun _ _ _ => by simp [qk]) (fun x hx => by cases hx; exact hd) ?_ h
  intro pos after gd w hw
  have hs := (hw.resolve_left (by simp [qk])).heap
  have key : ∀ {L : List HProp}, CurIn K it y L → ∀ {f : Frag}, f.le (fun b => w.heap[b]?) → SatL L f → (Instr.entry (.pointer (some ⟨it, 0, none⟩))).run X.P w = .ok (.tuple #[K.enc y.1, y.2]) w := by
    intro L hc
    induction hc with
    | here =>
      rintro f hf ⟨h1, _, _, l1, _, ⟨es, clock, seen, e1, k, e2, _, hcur⟩, _⟩
      obtain ⟨e, he, s0, rfl, hk, hv⟩ := hcur y rfl
      rw [← hk, ← hv]
      exact run_entry_at (P := X.P) w it _ clock s0 es clock e (hf _ _ (l1 _ _ e2)) (hf _ _ (l1 _ _ e1)) he k.bnd
    | there _ ih =>
      rintro f hf ⟨_, h2, _, _, l2, _, hL⟩
      exact ih (l2.trans hf) hL
  simp only [execOp, hx, Sem.run_bind, key hc (Frag.le.refl _) hs, Result.andThen_ok, Sem.run_pure]

/-! ### Least and greatest -/
theorem a_max {at_ : Array TypeId} {x y : Operand} {k k' : IntKind} {a b : Int} (hx : ev ρ x = .int k a) (hy : ev ρ y = .int k' b) (hd : Nat.blt d X.nt = true)
    (h : OpsL X ops nb N (i + 1) os Ls ds (upd ρ d (.int k (if b > a then b else a))) L) : Op1 X ops nb N i (some d) (.call { callee := .builtin .max, args := #[x, y], argTypes := at_ }) ty os Ls ds ρ L := by
  (refine op_pure1 (fun _ e => by cases e) (fun _ _ _ => by simp [qk]) hd ?_ h; intro pos after gd w)
  simp [execOp, resolve, invoke, builtin, hx, hy, Builtin.max_, Builtin.max2]
theorem a_min {at_ : Array TypeId} {x y : Operand} {k k' : IntKind} {a b : Int} (hx : ev ρ x = .int k a) (hy : ev ρ y = .int k' b) (hd : Nat.blt d X.nt = true)
    (h : OpsL X ops nb N (i + 1) os Ls ds (upd ρ d (.int k (if b < a then b else a))) L) : Op1 X ops nb N i (some d) (.call { callee := .builtin .min, args := #[x, y], argTypes := at_ }) ty os Ls ds ρ L := by
  (refine op_pure1 (fun _ e => by cases e) (fun _ _ _ => by simp [qk]) hd ?_ h; intro pos after gd w)
  simp [execOp, resolve, invoke, builtin, hx, hy, Builtin.min_, Builtin.min2]

/-! ### A piece of a string -/
theorem run_sliceBound {P : Program} {w : World} {k : IntKind} {a : Int} {n : Nat} {c : BoundsCode} (h0 : 0 ≤ a) (h1 : a ≤ n) : (Instr.sliceBound (.int k a) n c).run P w = .ok a.toNat w := by
  simp [Instr.sliceBound, asIntOf, h0, h1]

theorem a_slice_lo {xt : TypeId} [I : Ty X.P xt .string] {x y : Operand} {s : ByteArray} {k : IntKind} {a : Int} (hx : ev ρ x = .string s) (hy : ev ρ y = .int k a) (h0 : 0 ≤ a ∧ a ≤ (s.size : Int)) (hd : Nat.blt d X.nt = true)
    (h : OpsL X ops nb N (i + 1) os Ls ds (upd ρ d (.string (s.extract a.toNat s.size))) L) : Op1 X ops nb N i (some d) (.slice xt x (some y) none none) ty os Ls ds ρ L := by
  (refine op_pure1 (fun _ e => by cases e) (fun _ _ _ => by simp [qk]) hd ?_ h; intro pos after gd w)
  simp [execOp, hx, hy, Instr.sliceAt, Instr.slice, I.run_underlying, Instr.sliceBounds, run_sliceBound h0.1 h0.2]
theorem a_slice_hi {xt : TypeId} [I : Ty X.P xt .string] {x y : Operand} {s : ByteArray} {k : IntKind} {a : Int} (hx : ev ρ x = .string s) (hy : ev ρ y = .int k a) (h0 : 0 ≤ a ∧ a ≤ (s.size : Int)) (hd : Nat.blt d X.nt = true)
    (h : OpsL X ops nb N (i + 1) os Ls ds (upd ρ d (.string (s.extract 0 a.toNat))) L) : Op1 X ops nb N i (some d) (.slice xt x none (some y) none) ty os Ls ds ρ L := by
  (refine op_pure1 (fun _ e => by cases e) (fun _ _ _ => by simp [qk]) hd ?_ h; intro pos after gd w)
  simp [execOp, hx, hy, Instr.sliceAt, Instr.slice, I.run_underlying, Instr.sliceBounds, run_sliceBound h0.1 h0.2]
theorem a_slice_both {xt : TypeId} [I : Ty X.P xt .string] {x y z : Operand} {s : ByteArray} {k k' : IntKind} {a b : Int} (hx : ev ρ x = .string s) (hy : ev ρ y = .int k a) (hz : ev ρ z = .int k' b) (h0 : 0 ≤ a ∧ a ≤ b ∧ b ≤ (s.size : Int)) (hd : Nat.blt d X.nt = true)
    (h : OpsL X ops nb N (i + 1) os Ls ds (upd ρ d (.string (s.extract a.toNat b.toNat))) L) : Op1 X ops nb N i (some d) (.slice xt x (some y) (some z) none) ty os Ls ds ρ L := by
  (refine op_pure1 (fun _ e => by cases e) (fun _ _ _ => by simp [qk]) hd ?_ h; intro pos after gd w)
  have hb : (Instr.sliceBound (.int k' b) s.size .sliceAlen).run X.P w = .ok b.toNat w := run_sliceBound (by omega) h0.2.2
  have ha : (Instr.sliceBound (.int k a) b.toNat .sliceB).run X.P w = .ok a.toNat w := run_sliceBound h0.1 (by omega)
  simp [execOp, hx, hy, hz, Instr.sliceAt, Instr.slice, I.run_underlying, Instr.sliceBounds, hb, ha]

/-- The beginning of a slice. -/
theorem a_slice_view {xt e n by_ : Nat} {zs : List Value} [I : Sl X.P xt e n by_ zs] {x y : Operand} {p : Option Addr} {len cap : Nat} {k : IntKind} {a : Int} {m : Nat} (hx : ev ρ x = .slice p len cap) (hy : ev ρ y = .int k a) (ha : a = (m : Int)) (h0 : m ≤ cap) (hp : ∀ q, p = some q → q.spot = none) (hd : Nat.blt d X.nt = true)
    (h : OpsL X ops nb N (i + 1) os Ls ds (upd ρ d (.slice p m cap)) L) : Op1 X ops nb N i (some d) (.slice xt x none (some y) none) ty os Ls ds ρ L := by
  subst ha
  (refine op_pure1 (fun _ e => by cases e) (fun _ _ _ => by simp [qk]) hd ?_ h; intro pos after gd w)
  obtain ⟨ht, kk, z, hk, hkz, hsz, _, _⟩ := I.get
  have hb : (Instr.sliceBound (.int k (m : Int)) cap .sliceAcap).run X.P w = .ok m w := by have := run_sliceBound (P := X.P) (w := w) (k := k) (a := (m : Int)) (n := cap) (c := .sliceAcap) (by omega) (by omega); simpa using this
  simp [execOp, hx, hy, Instr.sliceAt, Instr.slice, run_underlying_of ht, Instr.sliceBounds, hb, sizeOf, typeInfo, hk]
  intro _
  cases p with
  | none => rfl
  | some q =>
    obtain ⟨b, o, sp⟩ := q
    have := hp _ rfl
    dsimp only at this
    subst this
    rw [Option.map_some, add_plain, Nat.add_zero]

theorem Vw.take {H : HProp} {n : Nat} {p : Option Addr} {len cap : Nat} {xs : List (List Value)} (v : Vw H n (.slice p len cap) xs) {k : Nat} (hk : k ≤ len) : Vw H n (.slice p k cap) (xs.take k) := by
  intro h hh
  obtain ⟨g, p', cap', h1, h2, h3, h4⟩ := v h hh
  simp only [Value.slice.injEq] at h1
  obtain ⟨rfl, rfl, rfl⟩ := h1
  refine ⟨fun x hx => g x (List.mem_of_mem_take hx), p, cap, by rw [List.length_take]; congr 1; omega, ?_, fun hp => by rw [h3 hp]; simp, fun b o hp hx => ?_⟩
  · rcases h2 with h2 | h2
    · exact .inl (by rw [h2]; simp)
    · exact .inr h2
  · obtain ⟨cs, T, fr, hb, hc⟩ := h4 b o hp (fun e => hx (by rw [e]; simp))
    refine ⟨cs, T, fr, hb, fun j u hj => hc j u ?_⟩
    have e : xs = xs.take k ++ xs.drop k := (List.take_append_drop k xs).symm
    rw [e, List.flatten_append, List.getElem?_append_left (List.getElem?_eq_some_iff.1 hj).1]
    exact hj

/-! ### Conversions -/
theorem a_convert_int {s t : TypeId} {ds' : TypeDesc} {k : IntKind} [I : Ty X.P s ds'] [J : Ty X.P t (.int k)] {x : Operand} {k' : IntKind} {a : Int} {v : Int} (hx : ev ρ x = .int k' a) (hc : (X.cv.contains s || X.cv.contains t) = false) (hv : k.wrap a = v) (hd : Nat.blt d X.nt = true)
    (h : OpsL X ops nb N (i + 1) os Ls ds (upd ρ d (.int k v)) L) : Op1 X ops nb N i (some d) (.convert s t x) ty os Ls ds ρ L := by
  subst hv
  (refine op_pure1 (fun _ e => by cases e) (fun _ _ _ => by simp only [qk, hc]; simp) hd ?_ h; intro pos after gd w)
  simp [execOp, hx, convert, I.run_underlying, J.run_underlying, Conv.intToInt]

/-- A string's bytes, laid in a slice. -/
def byteL (s : ByteArray) : List (List Value) := s.data.toList.map fun b => [.int .u8 b.toNat]
def bytesR (e : TypeId) (v : Value) (s : ByteArray) : HProp := fun h => ∃ b cap rest k, v = .slice (some ⟨b, 0, none⟩) s.size cap ∧ s.size ≤ k ∧ h b = some (.cells (s.data.toList.map (fun b => Value.int .u8 b.toNat) ++ rest).toArray e (k, k + 1))

theorem byteL_flat (s : ByteArray) : (byteL s).flatten = s.data.toList.map (fun b => Value.int .u8 b.toNat) := by
  unfold byteL
  induction s.data.toList with
  | nil => rfl
  | cons x l ih => simp [ih]
theorem byteL_len (s : ByteArray) : (byteL s).length = s.size := by simp [byteL]

theorem Vw.bytes {e : TypeId} {v : Value} {s : ByteArray} : Vw (bytesR e v s) 1 v (byteL s) := by
  rintro h ⟨b, cap, rest, k, rfl, hk, hb⟩
  refine ⟨fun x hx => ?_, some ⟨b, 0, none⟩, cap, by rw [byteL_len], .inr ⟨b, 0, rfl⟩, (fun e => by cases e), fun b' o' hp hx => ?_⟩
  · obtain ⟨y, _, rfl⟩ := List.mem_map.1 hx
    exact ⟨rfl, rfl⟩
  · cases hp
    refine ⟨_, _, _, hb, fun j u hj => ?_⟩
    rw [byteL_flat] at hj
    rw [Nat.zero_add, List.getElem?_toArray, List.getElem?_append_left (List.getElem?_eq_some_iff.1 hj).1]
    exact hj

theorem s_convert_bytes {s t e : TypeId} [I : Ty X.P s .string] [J : Ty X.P t (.slice e)] [K : Ty X.P e (.int .u8)] {x : Operand} {a : ByteArray} (hx : ev ρ x = .string a) (hc : (X.cv.contains s || X.cv.contains t) = true) (hd : Nat.blt d X.nt = true) (hb : nb.contains i = false)
    (h : ∀ b cap, OpsL X ops nb N (i + 1) os (bytesR e (.slice (some ⟨b, 0, none⟩) a.size cap) a :: L) ds (upd ρ d (.slice (some ⟨b, 0, none⟩) a.size cap)) (bytesR e (.slice (some ⟨b, 0, none⟩) a.size cap) a :: L)) : Op1 X ops nb N i (some d) (.convert s t x) ty os Ls ds ρ L := by
  refine op_eff (Y := Nat × Nat) (φ := fun _ => True) (v := fun y => .slice (some ⟨y.1, 0, none⟩) a.size y.2) (L' := fun y => bytesR e (.slice (some ⟨y.1, 0, none⟩) a.size y.2) a :: L) ⟨(fun _ e => by cases e), fun pos after gd => ⟨by simp only [qk, hc]; simp, fun w hs => ?_⟩⟩ (fun _ e => by cases e; exact hd) hb fun y _ => h y.1 y.2
  unfold OpVal
  simp only [execOp, hx, Sem.run_bind, run_bytes_of_string (P := X.P) w s t e a I.und J.und K.und, Result.andThen_ok, Sem.run_pure]
  refine ⟨(w.heap.size, grownCap w a.size 0 e), trivial, rfl, ?_⟩
  refine (hs.drew.alloc _).map fun _ hh => hh.headMono fun f hp => ?_
  refine ⟨w.heap.size, _, List.replicate (grownCap w a.size 0 e - a.size) (.int .u8 0), (bytesRow a (grownCap w a.size 0 e)).size, rfl, ?_, ?_⟩
  · simp [bytesRow]
  · have e1 : ((a.data.toList.map fun b : UInt8 => Value.int .u8 b.toNat) ++ List.replicate (grownCap w a.size 0 e - a.size) (Value.int .u8 0)).toArray = bytesRow a (grownCap w a.size 0 e) := by
      apply Array.ext'; simp [bytesRow]
    rw [e1]
    exact hp

theorem s_buildSlice_nb {t e n by_ len : Nat} {zs : List Value} [I : Sl X.P t e n by_ zs] {parts : Array (Nat × Operand)} {ps : List (Nat × Value)} {xs : List (List Value)}
    (hp : EvP ρ parts.toList ps) (hxs : ps.map (fun x => x.2.cells.toList) = xs) (hk : seqB 0 ps = true) (hl : Nat.beq xs.length len = true) (hg : goodB n xs = true) (hs : Nat.ble (len * n) 16777216 = true) (h0 : Nat.beq (len * n) 0 = false) (hd : Nat.blt d X.nt = true) (hk' : ∀ h, SatL L h → SatL Ls h)
    (h : ∀ v', v'.oneCell' = true → OpsL X ops nb N (i + 1) os Ls ds (upd ρ d v') (row e n v' xs :: L)) : Op1 X ops nb N i (some d) (.buildSlice t len parts) ty os Ls ds ρ L :=
  op_eff_nb (e_buildSlice hp (fill_seq hxs hk (Nat.eq_of_beq_eq_true hl) (good_of hg) (by intro h; rw [h] at h0; cases h0)) (Nat.eq_of_beq_eq_true hl) (good_of hg) hs h0) (fun _ e => by cases e; exact hd) (fun _ _ _ s => hk' _ s.tail) h

/-! ### Against nil -/
theorem a_map_nil {op : BinOp} {xt yt k e : Nat} [I : Mp X.P xt k e] {x y : Operand} {p : Option Nat} {v : Bool} (hx : ev ρ x = .map p) (hy : ev ρ y = .map none) (ho : isEq op = true) (hv : nilB op p.isNone = v) (hd : Nat.blt d X.nt = true)
    (h : OpsL X ops nb N (i + 1) os Ls ds (upd ρ d (.bool v)) L) : Op1 X ops nb N i (some d) (.binOp op xt x y yt) ty os Ls ds ρ L := by
  refine a_eq hx hy ho (fun op' w => by cases op' <;> cases p <;> rfl) (by cases p <;> rfl) (by cases p <;> rfl) (t := p.isNone) (fun w _ => ?_) hv hd h
  rw [equal_unfold, Op.equalIn]
  simp only [Sem.run_bind, run_underlying_of I.und, Result.andThen_ok]
  cases p <;> rfl
theorem a_func_nil {op : BinOp} {xt yt : Nat} {as rs : Array TypeId} {vr : Bool} [I : Ty X.P xt (.func as rs vr)] {x y : Operand} {f : Fn} {fs cs : Array Value} {v : Bool} (hx : ev ρ x = .func f fs cs) (hy : ev ρ y = .nilFunc) (ho : isEq op = true) (hv : nilB op false = v) (hd : Nat.blt d X.nt = true)
    (h : OpsL X ops nb N (i + 1) os Ls ds (upd ρ d (.bool v)) L) : Op1 X ops nb N i (some d) (.binOp op xt x y yt) ty os Ls ds ρ L := by
  refine a_eq hx hy ho (fun op' w => by cases op' <;> rfl) rfl rfl (t := false) (fun w _ => ?_) hv hd h
  rw [equal_unfold, Op.equalIn]
  simp only [Sem.run_bind, I.run_underlying, Result.andThen_ok]
  rfl
theorem a_nilfunc_nil {op : BinOp} {xt yt : Nat} {as rs : Array TypeId} {vr : Bool} [I : Ty X.P xt (.func as rs vr)] {x y : Operand} {v : Bool} (hx : ev ρ x = .nilFunc) (hy : ev ρ y = .nilFunc) (ho : isEq op = true) (hv : nilB op true = v) (hd : Nat.blt d X.nt = true)
    (h : OpsL X ops nb N (i + 1) os Ls ds (upd ρ d (.bool v)) L) : Op1 X ops nb N i (some d) (.binOp op xt x y yt) ty os Ls ds ρ L := by
  refine a_eq hx hy ho (fun op' w => by cases op' <;> rfl) rfl rfl (t := true) (fun w _ => ?_) hv hd h
  rw [equal_unfold, Op.equalIn]
  simp only [Sem.run_bind, I.run_underlying, Result.andThen_ok]
  rfl
theorem a_slice_nil {op : BinOp} {xt yt e : Nat} [I : Ty X.P xt (.slice e)] {x y : Operand} {p : Option Addr} {l c : Nat} {v : Bool} (hx : ev ρ x = .slice p l c) (hy : ev ρ y = .slice none 0 0) (ho : isEq op = true) (hv : nilB op p.isNone = v) (hd : Nat.blt d X.nt = true)
    (h : OpsL X ops nb N (i + 1) os Ls ds (upd ρ d (.bool v)) L) : Op1 X ops nb N i (some d) (.binOp op xt x y yt) ty os Ls ds ρ L := by
  refine a_eq hx hy ho (fun op' w => by cases op' <;> cases p <;> rfl) (by cases p <;> rfl) (by cases p <;> rfl) (t := p.isNone) (fun w _ => ?_) hv hd h
  rw [equal_unfold, Op.equalIn]
  simp only [Sem.run_bind, I.run_underlying, Result.andThen_ok]
  cases p <;> rfl

/-! ### Interfaces -/
theorem a_makeIface {t : TypeId} {dd : TypeDesc} [I : Ty X.P t dd] {x : Operand} {v : Value} (hx : ev ρ x = v) (hi : (match dd with | .interface _ => true | _ => false) = false) (hd : Nat.blt d X.nt = true)
    (h : OpsL X ops nb N (i + 1) os Ls ds (upd ρ d (.iface t v)) L) : Op1 X ops nb N i (some d) (.makeInterface t x) ty os Ls ds ρ L := by
  subst hx
  (refine op_pure1 (fun _ e => by cases e) (fun _ _ _ => by simp [qk]) hd ?_ h; intro pos after gd w)
  simp only [execOp, Instr.makeInterface, Sem.run_bind, I.run_underlying, Result.andThen_ok]
  cases dd <;> first | rfl | cases hi

theorem s_assert {xt t : TypeId} {dd : TypeDesc} [I : Ty X.P t dd] {x : Operand} {v : Value} (hx : ev ρ x = .iface t v) (hi : (match dd with | .interface _ => true | _ => false) = false) (hd : Nat.blt d X.nt = true) (hb : nb.contains i = false)
    (h : OpsL X ops nb N (i + 1) os L ds (upd ρ d v) L) : Op1 X ops nb N i (some d) (.typeAssert x xt t false) ty os Ls ds ρ L := by
  refine op_eff (Y := Unit) (φ := fun _ => True) (v := fun _ => v) (L' := fun _ => L) ⟨(fun _ e => by cases e), fun pos after gd => ⟨rfl, fun w hs => ?_⟩⟩ (fun _ e => by cases e; exact hd) hb fun _ _ => h
  unfold OpVal
  have : (Instr.typeAssert (.iface t v) xt t false).run X.P w = .ok v w := by
    simp only [Instr.typeAssert, Sem.run_bind, I.run_underlying, Result.andThen_ok]
    cases dd <;> first | (simp; done) | cases hi
  simp only [execOp, hx, Sem.run_bind, this, Result.andThen_ok, Sem.run_pure]
  exact ⟨(), trivial, trivial, hs⟩

/-- A function as a value, without captures. -/
theorem vspec_fn {P : Program} {f : FuncId} [K : FnI P f] {args : List Value} {pre : List HProp} {Y : Type} {φ : Y → Prop} {ret : Y → Value} {post : Y → List HProp} (s : FSpec P f args pre Y φ ret post) : VSpec P (.func (.func f) #[] #[]) args pre Y φ ret post :=
  vspec_func (cap := []) (by rw [List.append_nil]; exact s)

theorem satL_pre : ∀ {pre R : List HProp} {h : Frag}, SatL (pre ++ R) h → SatL pre h
  | [], _, _, _ => trivial
  | _ :: _, _, _, s => SatL.consMono s fun _ k => satL_pre k
theorem takePre {L pre R : List HProp} (t : Take L pre R) : ∀ h, SatL L h → SatL pre h := fun _ s => satL_pre (t.out s)
theorem ok_drawL {X : Cx} {ops : Array Oper} {ds : List Deferred} {ρ : Regs} {L : List HProp} {Q : Exit → Act → World → Prop} (nb : List Nat) (Ls : List HProp) {R : List HProp} {id : Nat} {cv : List TypeId} (ht : Take L Ls R) (hm : X.P.follows .mixedOrders = true) (hcv : X.cv = cv) (hok : regionOk ops (kdf cv ops) nb = true)
    (h : OpsL X ops nb (Q .normal) 0 ops.toList Ls ds ρ L) : Ok X (.region id ops true) ds ρ L Q := ok_draw nb Ls hm hcv hok (takePre ht) h

/-- Something that there is, ahead of a call. -/
theorem vspec_ex {P : Program} {fv : Value} {args : List Value} {α : Type} {M : α → List HProp} {pre : List HProp} {Y : Type} {φ : Y → Prop} {ret : Y → Value} {post : Y → List HProp} (h : ∀ a, VSpec P fv args (M a ++ pre) Y φ ret post) : VSpec P fv args (exP M :: pre) Y φ ret post := by
  intro w0 w R hs
  obtain ⟨h1, h2, ha, l1, l2, ⟨x, hx⟩, hL⟩ := hs.heap
  refine h x w0 w R ⟨hs.os, hs.tape, hs.output, hs.size, ?_⟩
  have := SatL.flat (M := M x) (L := pre ++ R) ⟨h1, h2, ha, l1, l2, hx, hL⟩
  rw [List.append_assoc]; exact this
theorem fspec_ex {P : Program} {f : FuncId} {args : List Value} {α : Type} {M : α → List HProp} {pre : List HProp} {Y : Type} {φ : Y → Prop} {ret : Y → Value} {post : Y → List HProp} (h : ∀ a, FSpec P f args (M a ++ pre) Y φ ret post) : FSpec P f args (exP M :: pre) Y φ ret post := by
  intro w0 w R hs
  obtain ⟨h1, h2, ha, l1, l2, ⟨x, hx⟩, hL⟩ := hs.heap
  refine h x w0 w R ⟨hs.os, hs.tape, hs.output, hs.size, ?_⟩
  have := SatL.flat (M := M x) (L := pre ++ R) ⟨h1, h2, ha, l1, l2, hx, hL⟩
  rw [List.append_assoc]; exact this

/-- The library's clone of a map. -/
theorem vspec_clone {P : Program} {f : FuncId} (hf : ∀ args w, (callFunc f args).run P w = ((Extern.MapsClone.clone args).run P w).andThen fun v w' => .ok (.value v) w') (K : KT) (t : TypeId) (m : Nat) (l : List (K.α × Value)) :
    VSpec P (.func (.func f) #[] #[]) [.iface t (.map (some m))] [mapK K m l] Nat (fun _ => True) (fun b => .iface t (.map (some b))) (fun b => [mapK K b l, mapK K m l]) := by
  intro w0 w R hs
  obtain ⟨es, clock, hb, hk, hset⟩ := hs.mapObj
  have hrun : (Extern.MapsClone.clone #[.iface t (.map (some m))]).run P w = .ok (.iface t (.map (some w.heap.size))) (w.alloc (.map es clock)) := by
    show (getObj m >>= fun o => (match o with | .map entries clock => (do pure (Value.iface t (.map (some (← newObj (.map entries clock)))))) | _ => stuck "maps.clone: a map expected" : Sem Value)).run P w = _
    rw [Sem.run_bind, MapKept.run_getObj_map (P := P) hb]
    simp only [Result.andThen_ok, Sem.run_bind, run_newObj, Sem.run_pure]
    rfl
  unfold Runs callV
  simp only [Deferred.ofValue, invoke, Sem.run_bind, Sem.run_pure, Result.andThen_ok, Array.empty_append, Array.append_empty, hf, hrun]
  refine ⟨w.heap.size, trivial, rfl, (hs.alloc (.map es clock)).map fun _ hh => hh.headMono fun _ hp => ⟨es, clock, hp, hk⟩⟩
end
end Go.Fx
