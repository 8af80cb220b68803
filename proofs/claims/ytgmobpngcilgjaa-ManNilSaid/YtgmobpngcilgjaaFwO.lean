/- THE FRAMEWORK, PART O: make of a slice, stores into one's own slice, bytes to text, a text's byte. -/
import Derived.Test.YtgmobpngcilgjaaFwN
import Derived.Laws.MakeOwn
import Derived.Laws.BytesString
set_option linter.unusedSimpArgs false
set_option linter.unusedVariables false
namespace Go.Fx
open Go

section
variable {X : Cx} {ops : Array Oper} {nb : List Nat} {N : Act → World → Prop} {i : Nat} {os : List Oper} {Ls : List HProp} {ds : List Deferred} {ρ : Regs} {L : List HProp} {ty : TypeId} {d : Nat}

theorem madeCells_one (z : Value) (n : Nat) : madeCells #[z] n = Array.replicate n z := by
  apply Array.ext
  · simp [madeCells]
  · intro k h1 h2
    have hk : k < n := by simpa using h2
    have hz : ((#[z] : Array Value)[k % 1]!) = z := by rw [Nat.mod_one]; rfl
    simp [madeCells]
    rw [Nat.mod_one]; rfl

/-- 'make([]T, n)', T of one cell. -/
theorem s_makeSlice1 {t e by_ : Nat} {z : Value} [I : Sl X.P t e 1 by_ [z]] {x y : Operand} {k k' : IntKind} {a : Int} {n : Nat} (hx : ev ρ x = .int k a) (hy : ev ρ y = .int k' a) (ha : a = (n : Int)) (h1 : by_ * n ≤ 281474976710656) (hz1 : z.oneCell' = true) (h2 : n ≤ 9223372036854775807) (hd : Nat.blt d X.nt = true) (hb : nb.contains i = false)
    (h : ∀ b, OpsL X ops nb N (i + 1) os (row e 1 (.slice (some ⟨b, 0, none⟩) n n) (List.replicate n [z]) :: L) ds (upd ρ d (.slice (some ⟨b, 0, none⟩) n n)) (row e 1 (.slice (some ⟨b, 0, none⟩) n n) (List.replicate n [z]) :: L)) : Op1 X ops nb N i (some d) (.makeSlice t x y) ty os Ls ds ρ L := by
  subst ha
  refine op_eff (Y := Nat) (φ := fun _ => True) (v := fun b => .slice (some ⟨b, 0, none⟩) n n) (L' := fun b => row e 1 (.slice (some ⟨b, 0, none⟩) n n) (List.replicate n [z]) :: L) ⟨(fun _ e => by cases e), fun pos after gd => ⟨rfl, fun w hs => ?_⟩⟩ (fun _ e => by cases e; exact hd) hb fun b _ => h b
  obtain ⟨ht, kk, zz, hk, hkz, hsz, hby, hzc⟩ := I.get
  have hzz : zz.cells = #[z] := by apply Array.ext'; rw [hzc]
  have hrun := run_make (P := X.P) (w := w) t e kk zz ht hk hkz k k' (n : Int) (n : Int) (by omega) (by omega) (by rw [hby]; omega) (by omega)
  rw [hsz, hzz, Nat.mul_one, madeCells_one] at hrun
  simp only [Int.toNat_natCast] at hrun
  unfold OpVal
  simp only [execOp, hx, hy, Sem.run_bind, hrun, Result.andThen_ok, Sem.run_pure]
  refine ⟨w.heap.size, trivial, rfl, (hs.alloc _).map fun _ hh => hh.headMono fun f hp => ⟨?_, .inr ⟨w.heap.size, n, [], by simp, by simp, ?_⟩⟩⟩
  · intro u hu
    rw [List.eq_of_mem_replicate hu]
    exact ⟨rfl, by simp [oneCells, hz1]⟩
  · have e1 : ((List.replicate n [z]).flatten ++ []).toArray = Array.replicate n z := by
      apply Array.ext'; simp [List.flatten_replicate_singleton]
    rw [e1]; exact hp

/-- A store into an element (of one cell) of one's own slice. -/
theorem s_storeRow1 {t : TypeId} [I : Sz X.P t 1] {a x : Operand} {b m len cap e : Nat} {v : Value} {xs : List (List Value)} {R : List HProp}
    (hx : ev ρ a = .pointer (some ⟨b, slot 0 1 m 0, none⟩)) (hv : ev ρ x = v) (hc : v.cells.toList = [v]) (h1 : v.oneCell' = true) (hsel : Sel L (row e 1 (.slice (some ⟨b, 0, none⟩) len cap) xs) R) (hm : m < len) (hb : nb.contains i = false)
    (h : OpsL X ops nb N (i + 1) os (row e 1 (.slice (some ⟨b, 0, none⟩) len cap) (xs.set m [v]) :: R) ds ρ (row e 1 (.slice (some ⟨b, 0, none⟩) len cap) (xs.set m [v]) :: R)) : Op1 X ops nb N i none (.store t a x) ty os Ls ds ρ L := by
  refine op_eff (Y := Unit) (φ := fun _ => True) (v := fun _ => undef) (L' := fun _ => row e 1 (.slice (some ⟨b, 0, none⟩) len cap) (xs.set m [v]) :: R) ?_ (fun _ e => by cases e) hb fun _ _ => h
  subst hv
  refine eff_intro1 (fun _ e => by cases e) (fun _ _ _ => rfl) fun pos after gd w hs => ?_
  have hs1 := hs.sel hsel
  obtain ⟨f1, f2, ha, l1, l2, ⟨g, hrow⟩, hR⟩ := hs1.heap
  rcases hrow with ⟨hn, _⟩ | ⟨b', cap', rest, hv', hl, hbk⟩
  · cases hn
  simp only [Value.slice.injEq, Option.some.injEq, Addr.mk.injEq, and_true] at hv'
  obtain ⟨hbb, hlen, hcc⟩ := hv'
  subst hbb hlen hcc
  have hs2 : Sats X.w0 w (pts b (.cells (xs.flatten ++ rest).toArray e) :: R) := ⟨hs1.os, hs1.tape, hs1.output, hs1.size, ⟨f1, f2, ha, l1, l2, hbk, hR⟩⟩
  have hfl := g.flatten_length
  have hslot : slot 0 1 m 0 = m := by unfold slot; omega
  rw [hslot] at hx
  obtain ⟨w', h2, h3⟩ := storeCells_list (P := X.P) [ev ρ x] 0 m (xs.flatten ++ rest) R Sel.here hs2 (by simpa using h1) (by rw [List.length_append, hfl, List.length_singleton]; omega)
  have hsz : (ev ρ x).cells.size = 1 := by have := congrArg List.length hc; simpa using this
  unfold OpVal
  simp only [execOp, Instr.storeAt, Instr.sureAddr, hx, storeVar, Sem.run_bind, Sem.run_pure, Result.andThen_ok, I.run_sizeOf, hsz, ne_eq, not_true_eq_false, if_false, hc, h2]
  refine ⟨trivial, h3.map fun _ hh => hh.headMono fun f hp => ⟨?_, .inr ⟨b, cap, rest, by rw [List.length_set], ?_, ?_⟩⟩⟩
  · intro u hu
    rcases List.mem_or_eq_of_mem_set hu with hu | rfl
    · exact g u hu
    · exact ⟨rfl, by simp [oneCells, h1]⟩
  · have h4 : (xs.set m [ev ρ x]).flatten.length = xs.flatten.length := by
      have : good 1 (xs.set m [ev ρ x]) := by
        intro u hu
        rcases List.mem_or_eq_of_mem_set hu with hu | rfl
        · exact g u hu
        · exact ⟨rfl, by simp [oneCells, h1]⟩
      rw [this.flatten_length, hfl, List.length_set]
    rw [List.length_append, h4, ← List.length_append]; exact hl
  · have e1 : (xs.set m [ev ρ x]).flatten ++ rest = (xs.flatten ++ rest).take (m + 0) ++ [ev ρ x] ++ (xs.flatten ++ rest).drop (m + 0 + [ev ρ x].length) := by
      have key : ∀ (ys : List (List Value)) (m : Nat), good 1 ys → m < ys.length → (ys.set m [ev ρ x]).flatten ++ rest = (ys.flatten ++ rest).take m ++ [ev ρ x] ++ (ys.flatten ++ rest).drop (m + 1) := by
        intro ys
        induction ys with
        | nil => intro m _ h; simp at h
        | cons y ys ih =>
          intro m gy h
          have hy := (gy y (List.mem_cons_self ..)).1
          match y, hy with
          | [y0], _ =>
            cases m with
            | zero => simp
            | succ m =>
              have := ih m (fun u hu => gy u (List.mem_cons_of_mem _ hu)) (by simpa using h)
              simp only [List.set_cons_succ, List.flatten_cons, List.cons_append, List.nil_append, List.take_succ_cons, List.drop_succ_cons]
              rw [this]
      simpa using key xs m g hm
    rw [e1]; exact hp

/-- 'string(b)' of one's own bytes. -/
theorem s_bytes_string {s t e : TypeId} [I : Ty X.P s (.slice e)] [J : Ty X.P t .string] [K : Ty X.P e (.int .u8)] {x : Operand} {v : Value} {l : List UInt8} (hx : ev ρ x = v) (hc : (X.cv.contains s || X.cv.contains t) = true)
    (hr : VwIn L 1 v (l.map fun b => [.int .u8 (b.toNat : Int)])) (hd : Nat.blt d X.nt = true) (hb : nb.contains i = false)
    (h : OpsL X ops nb N (i + 1) os L ds (upd ρ d (.string ⟨l.toArray⟩)) L) : Op1 X ops nb N i (some d) (.convert s t x) ty os Ls ds ρ L := by
  refine op_eff (Y := Unit) (φ := fun _ => True) (v := fun _ => .string ⟨l.toArray⟩) (L' := fun _ => L) ⟨(fun _ e => by cases e), fun pos after gd => ⟨by simp only [qk, hc]; simp, fun w hs => ?_⟩⟩ (fun _ e => by cases e; exact hd) hb fun _ _ => h
  obtain ⟨g, p, cap, hv, h2, h2', h3⟩ := hr.satL hs.heap
  have hlen : (l.map fun b => ([.int .u8 (b.toNat : Int)] : List Value)).length = l.length := by simp
  rw [hlen] at hv
  have hrun : (convert s t (.slice p l.length cap)).run X.P w = .ok (.string ⟨l.toArray⟩) w := by
    cases p with
    | none =>
      have hl : l = [] := by simpa using h2' rfl
      subst hl
      rw [run_convert_bytes_string w s t e none _ _ I.und K.und J.und]
      rfl
    | some a =>
      rcases h2 with hnil | ⟨b, o, hbo⟩
      · have hl : l = [] := by simpa using hnil
        subst hl
        exact run_convert_bytes_back w s t e a cap [] I.und K.und J.und (fun j hj => by simp at hj)
      · cases hbo
        refine run_convert_bytes_back w s t e ⟨b, o, none⟩ cap l I.und K.und J.und (fun j hj => ?_)
        have hne : (l.map fun b => ([.int .u8 (b.toNat : Int)] : List Value)) ≠ [] := by intro h; rw [List.map_eq_nil_iff] at h; subst h; simp at hj
        obtain ⟨cs, T, fr, hbk, hcs⟩ := h3 b o rfl hne
        have hfl : (l.map fun b => ([.int .u8 (b.toNat : Int)] : List Value)).flatten = l.map fun b => Value.int .u8 (b.toNat : Int) := by
          clear hne hcs hj g h3 h2' hlen h hr hv hx
          induction l with
          | nil => rfl
          | cons y l ih => simp [ih]
        rw [add_plain]
        refine cell_of_heap hbk (hcs j _ ?_)
        rw [hfl]; simp [hj]
  unfold OpVal
  simp only [execOp, hx, hv, Sem.run_bind, hrun, Result.andThen_ok, Sem.run_pure]
  exact ⟨(), trivial, trivial, hs⟩
/-- A byte of a text. -/
theorem a_index_str {xt : TypeId} [I : Ty X.P xt .string] {x y : Operand} {s : ByteArray} {k : IntKind} {a : Int} {m : Nat} {c : UInt8} (hx : ev ρ x = .string s) (hy : ev ρ y = .int k a) (ha : a = (m : Int)) (hc : s.data.toList[m]? = some c) (hd : Nat.blt d X.nt = true)
    (h : OpsL X ops nb N (i + 1) os Ls ds (upd ρ d (.int .u8 (c.toNat : Int))) L) : Op1 X ops nb N i (some d) (.index xt x y) ty os Ls ds ρ L := by
  subst ha
  (refine op_pure1 (fun _ e => by cases e) (fun _ _ _ => by simp [qk]) hd ?_ h; intro pos after gd w)
  have h1 : s[m]? = some c := by
    have hlt := (List.getElem?_eq_some_iff.1 hc).1
    have hlt' : m < s.size := by simpa using hlt
    rw [getElem?_pos s m hlt']
    have := (List.getElem?_eq_some_iff.1 hc).2
    congr 1
  simp [execOp, hx, hy, Instr.index, I.run_underlying, asIntOf, h1]

class ArI (P : Program) (t : TypeId) (len e n : outParam Nat) : Prop where
  und : P.underlying t = some (.array len e)
  size : (P.info? e).map (fun i => i.size) = some n

/-- An element (of one cell) of an array. -/
theorem a_index_arr {xt len e : Nat} {dd : TypeDesc} [I : ArI X.P xt len e 1] [J : Ty X.P e dd] {x y : Operand} {cs : List Value} {k : IntKind} {a : Int} {m : Nat} {v : Value} (hx : ev ρ x = .agg cs.toArray) (hy : ev ρ y = .int k a) (ha : a = (m : Int)) (hm : m < len) (hdd : isAggD dd = false) (hc : cs[m]? = some v) (hd : Nat.blt d X.nt = true)
    (h : OpsL X ops nb N (i + 1) os Ls ds (upd ρ d v) L) : Op1 X ops nb N i (some d) (.index xt x y) ty os Ls ds ρ L := by
  subst ha
  (refine op_pure1 (fun _ e => by cases e) (fun _ _ _ => by simp [qk]) hd ?_ h; intro pos after gd w)
  have hs : (sizeOf e).run X.P w = .ok 1 w := (Sz.mk I.size : Sz X.P e 1).run_sizeOf
  have hp : (part e cs.toArray m).run X.P w = .ok v w := run_part1 J.und hdd (by simpa using hc)
  simp only [execOp, hx, hy, Instr.index, Sem.run_bind, run_underlying_of I.und, Result.andThen_ok, asIntOf, Sem.run_pure]
  rw [if_pos (by omega)]
  simp only [Sem.run_bind, hs, Result.andThen_ok, Int.toNat_natCast, Nat.mul_one, hp, Sem.run_pure]

/-- The address of an element (of one cell) of an array. -/
theorem a_indexAddr_arr {xt len e : Nat} [I : ArI X.P xt len e 1] {x y : Operand} {b o : Nat} {k : IntKind} {a : Int} {m : Nat} (hx : ev ρ x = .pointer (some ⟨b, o, none⟩)) (hy : ev ρ y = .int k a) (ha : a = (m : Int)) (hm : m < len) (hd : Nat.blt d X.nt = true)
    (h : OpsL X ops nb N (i + 1) os Ls ds (upd ρ d (.pointer (some ⟨b, o + m, none⟩))) L) : Op1 X ops nb N i (some d) (.indexAddr xt x y) ty os Ls ds ρ L := by
  subst ha
  (refine op_pure1 (fun _ e => by cases e) (fun _ _ _ => by simp [qk]) hd ?_ h; intro pos after gd w)
  have hs : (sizeOf e).run X.P w = .ok 1 w := (Sz.mk I.size : Sz X.P e 1).run_sizeOf
  have hadd : (⟨b, o, none⟩ : Addr).add (m * 1) = ⟨b, o + m, none⟩ := by rw [add_plain, Nat.mul_one]
  rw [Nat.mul_one] at hadd
  simp [execOp, hx, hy, Instr.indexAt, run_underlying_of I.und, asIntOf, hm, hs, hadd, Instr.sureAddr]
/-- An array literal, all elements (of one cell) given. -/
theorem a_build_arr {t len e : Nat} {z : Value} [I : ArI X.P t len e 1] [Z : Zr X.P t z] {parts : Array (Nat × Operand)} {ps : List (Nat × Value)} {out : List Value}
    (hp' : EvP ρ parts.toList ps) (hk : seqB 0 ps = true) (hz : z.cells.size = ps.length) (h1 : (ps.all fun x => Nat.beq x.2.cells.size 1) = true) (ho : (ps.map fun x => x.2.cells.toList).flatten = out) (hd : Nat.blt d X.nt = true)
    (h : OpsL X ops nb N (i + 1) os Ls ds (upd ρ d (.agg out.toArray)) L) : Op1 X ops nb N i (some d) (.build t parts) ty os Ls ds ρ L := by
  have hp := hp'.map
  subst hp ho
  (refine op_pure1 (fun _ e => by cases e) (fun _ _ _ => by simp [qk]) hd ?_ h; intro pos after gd w)
  have e1 : (parts.map fun (i, x) => (i, ev ρ x)).toList = parts.toList.map (fun x => (x.1, ev ρ x.2)) := by simp
  have hs : (sizeOf e).run X.P w = .ok 1 w := (Sz.mk I.size : Sz X.P e 1).run_sizeOf
  have hfill : Instr.fill (fun i => some (i * 1, 1)) z.cells (parts.toList.map (fun x => (x.1, ev ρ x.2))) = some ((parts.toList.map (fun x => (x.1, ev ρ x.2))).map fun x => x.2.cells.toList).flatten.toArray := by
    generalize parts.toList.map (fun x => (x.1, ev ρ x.2)) = ps at hk hz h1
    have h1' : ∀ v ∈ ps.map (·.2), v.cells.size = 1 := by
      intro v hv
      obtain ⟨x, hx, rfl⟩ := List.mem_map.1 hv
      exact Nat.eq_of_beq_eq_true (List.all_eq_true.1 h1 x hx)
    have := Great.fill_whole (by omega : 0 < 1) (ps.map (·.2)) z.cells h1' (by rw [List.length_map, Nat.mul_one]; exact hz.symm)
    rw [seqB_eq ps 0 hk] at this
    rw [this, List.flatMap_def, List.map_map]
    rfl
  simp only [execOp, Instr.build, Sem.run_bind, Z.run_zero, Result.andThen_ok, run_underlying_of I.und, hs, e1, hfill, Sem.run_pure]
theorem a_compl {xt : TypeId} {x : Operand} {k : IntKind} {a : Int} (hx : ev ρ x = .int k a) (hd : Nat.blt d X.nt = true) (h : OpsL X ops nb N (i + 1) os Ls ds (upd ρ d (.int k (bitsOf .xor k (if k.signed then -1 else k.max) a))) L) :
    Op1 X ops nb N i (some d) (.unOp .xor xt x) ty os Ls ds ρ L := by
  (refine op_pure1 (fun _ e => by cases e) (fun _ _ _ => by simp [qk]) hd ?_ h; intro pos after gd w); simp [execOp, hx, Op.unary, Op.intBits, bitsOf]
end
end Go.Fx
