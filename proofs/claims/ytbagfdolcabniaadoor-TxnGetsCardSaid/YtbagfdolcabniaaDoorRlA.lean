/- Package rel: the keys of its map; the library's clones. -/
import Derived.Test.YtbagfdolcabniaaDoorSdE
-- @DEFS Y
set_option linter.unusedSimpArgs false
set_option linter.unusedVariables false
set_option maxRecDepth 100000
namespace Go.Proofs.YtbagfdolcabniaaDoor
open Go Go.Fx Go.Proofs Go.Pl

def placeV (p : Pc) : List Value := .int .i64 p.1 :: valV p.2
@[reducible] def KPlace : KT := ⟨Pc, inferInstance, fun p => .agg (placeV p).toArray⟩
instance {t k i r : Int} {s : ByteArray} : KeyV KPlace (.agg #[.int .i64 t, .int .u8 k, .int .i64 i, .int .u64 r, .string s]) (t, ⟨k, i, r, s⟩) := ⟨rfl⟩

theorem pl_part0 (p : Pc) (w : World) : (part 3 (placeV p).toArray 0).run Tryd.prog w = .ok (.int .i64 p.1) w := run_part1 Tryd.underlying3 rfl rfl
theorem pl_part1 (p : Pc) (w : World) : (part 31 (placeV p).toArray 1).run Tryd.prog w = .ok (.agg (valV p.2).toArray) w := by
  unfold part
  simp only [Sem.run_bind, Tryd.isAgg31, Tryd.sizeOf31, Result.andThen_ok, if_true, Sem.run_pure]
  rfl
theorem vl_leaf (v : Vl) (w : World) (e : Bool) (n : Nat) : (Instr.checkKey e (n + 2) 31 (.agg (valV v).toArray)).run Tryd.prog w = .ok () w := by
  have p0 : (part 5 (valV v).toArray 0).run Tryd.prog w = .ok (.int .u8 v.kind) w := run_part1 Tryd.underlying5 rfl rfl
  have p1 : (part 2 (valV v).toArray 1).run Tryd.prog w = .ok (.int .i64 v.int) w := run_part1 Tryd.underlying2 rfl rfl
  have p2 : (part 29 (valV v).toArray 2).run Tryd.prog w = .ok (.int .u64 v.real) w := run_part1 Tryd.underlying29 rfl rfl
  have p3 : (part 9 (valV v).toArray 3).run Tryd.prog w = .ok (.string v.text) w := run_part1 Tryd.underlying9 rfl rfl
  have k0 := MapKept.run_checkKey (P := Tryd.prog) (w := w) (k := .int .u8 v.kind) Tryd.underlying5 rfl e n
  have k1 := MapKept.run_checkKey (P := Tryd.prog) (w := w) (k := .int .i64 v.int) Tryd.underlying2 rfl e n
  have k2 := MapKept.run_checkKey (P := Tryd.prog) (w := w) (k := .int .u64 v.real) Tryd.underlying29 rfl e n
  have k3 := MapKept.run_checkKey (P := Tryd.prog) (w := w) (k := .string v.text) Tryd.underlying9 trivial e n
  rw [Instr.checkKey]
  simp only [Sem.run_bind, run_underlying Tryd.underlying31, Result.andThen_ok]
  rw [← Array.forIn_toList]
  simp [List.forIn_cons, Sem.run_bind, p0, p1, p2, p3, k0, k1, k2, k3, Result.andThen_ok]
theorem pl_check (e : Bool) (p : Pc) (w : World) : (Instr.checkKey e 10000 113 (KPlace.enc p)).run Tryd.prog w = .ok () w := by
  have k0 := MapKept.run_checkKey (P := Tryd.prog) (w := w) (k := .int .i64 p.1) Tryd.underlying3 rfl e 9998
  have k1 := vl_leaf p.2 w e 9997
  show (Instr.checkKey e (9999 + 1) 113 (.agg (placeV p).toArray)).run Tryd.prog w = .ok () w
  rw [Instr.checkKey]
  simp only [Sem.run_bind, run_underlying Tryd.underlying113, Result.andThen_ok]
  rw [← Array.forIn_toList]
  simp [List.forIn_cons, Sem.run_bind, pl_part0, pl_part1, k0, k1, Result.andThen_ok]
theorem vl_equal (a b : Vl) (w : World) (n : Nat) : (Op.equalIn (n + 2) 31 (.agg (valV a).toArray) (.agg (valV b).toArray)).run Tryd.prog w = .ok (decide (a = b)) w := by
  obtain ⟨fs, hu, hs, hg, hi⟩ := valEq.get
  have hfo : Tryd.prog.fieldsOf 31 = fs := by simp [Program.fieldsOf, hu]
  rw [show n + 2 = (n + 1) + 1 from rfl, run_equalIn_struct w (n + 1) 31 _ _ (by rw [hfo]; exact hu) hs, hfo]
  have h := run_eqFields (P := Tryd.prog) (w := w) (n := n) (xs := valV a) (ys := valV b) fs.toList 0 _ hi rfl
  rw [List.drop_zero, List.drop_zero, eqL_valV] at h
  exact h
theorem pl_equal (a b : Pc) (w : World) : (Op.equal 113 (KPlace.enc a) (KPlace.enc b)).run Tryd.prog w = .ok (decide (a = b)) w := by
  have hst : Tryd.prog.stoodInHeld 113 = false := by kernel_rfl
  have k0 : (Op.equalIn 9999 3 (.int .i64 a.1) (.int .i64 b.1)).run Tryd.prog w = .ok (decide (a.1 = b.1)) w := run_eqD (P := Tryd.prog) (n := 9998) Tryd.underlying3 (x := .int .i64 a.1) (y := .int .i64 b.1) rfl
  have k1 := vl_equal a.2 b.2 w 9997
  show (Op.equalIn (9999 + 1) 113 (.agg (placeV a).toArray) (.agg (placeV b).toArray)).run Tryd.prog w = _
  rw [run_equalIn_struct w 9999 113 _ _ (by simp [Program.fieldsOf, Tryd.underlying113]) hst]
  simp [Program.fieldsOf, Tryd.underlying113, Op.eqFields, Sem.run_bind, pl_part0, pl_part1, k0, k1, Result.andThen_ok, Sem.run_ite, Sem.run_pure]
  by_cases h1 : a.1 = b.1 <;> by_cases h2 : a.2 = b.2 <;> simp [h1, h2, Prod.ext_iff]
theorem pl_bits (p : Pc) : Instr.sameBits 10000 (KPlace.enc p) (KPlace.enc p) = true := by
  show Instr.sameBits (9999 + 1) (.agg (placeV p).toArray) (.agg (placeV p).toArray) = true
  simp [Instr.sameBits, placeV, valV]
  show (p.2.text.data == p.2.text.data) = true
  exact beq_self_eq_true _
instance keyPlace : KeyT Tryd.prog 113 KPlace := keyT_asking Tryd.underlying113 (fun _ _ => rfl) pl_check pl_equal pl_bits
instance keyU8 : KeyT Tryd.prog 5 (KInt .u8) := keyT_int Tryd.underlying5
end Go.Proofs.YtbagfdolcabniaaDoor
