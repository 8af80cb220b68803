/- The walks of package disk, part A: names, live, burn. -/
import Derived.Test.YtgmobpngcilgjaaTy
import Derived.Test.YtgmobpngcilgjaaZ
import Derived.Test.YtgmobpngcilgjaaDkP
-- @DEFS Z
set_option linter.unusedSimpArgs false
set_option linter.unusedVariables false
namespace Go.Proofs.Ytgmobpngcilgjaa
open Go Go.Fx Go.Proofs Go.Pl

instance keyStr : KeyT Try.prog 9 KStr := keyT_str Try.underlying9

def encF (F : FS) : List (ByteArray × Value) := F.map fun x => (x.1, .agg #[.string x.2])
theorem getK_encF (k : ByteArray) : ∀ F : FS, getK KStr k (encF F) = (fget k F).map fun s => .agg #[.string s]
  | [] => rfl
  | (b, v) :: l => by
    show (if k = b then some (Value.agg #[.string v]) else getK KStr k (encF l)) = _
    unfold fget
    split
    · rfl
    · exact getK_encF k l
theorem putK_encF (k s : ByteArray) : ∀ F : FS, putK KStr k (.agg #[.string s]) (encF F) = encF (fput k s F)
  | [] => rfl
  | (b, v) :: l => by
    show (if k = b then (k, Value.agg #[.string s]) :: encF l else (b, Value.agg #[.string v]) :: putK KStr k (.agg #[.string s]) (encF l)) = _
    unfold fput
    split
    · rfl
    · rw [putK_encF k s l]; rfl
theorem delK_encF (k : ByteArray) : ∀ F : FS, delK KStr k (encF F) = encF (fdel k F)
  | [] => rfl
  | (b, v) :: l => by
    show (if k = b then encF l else (b, Value.agg #[.string v]) :: delK KStr k (encF l)) = _
    unfold fdel
    split
    · rfl
    · rw [delK_encF k l]; rfl

/-- A closure over a call, as a value; the boxes that it needs. -/
def clP : Cl → List Value → HProp
  | .app n s, v => exP fun y : { y : Nat × Nat × Nat // v = [.func (.func 127) #[] [.pointer (some ⟨y.2.2, 0, none⟩), .pointer (some ⟨y.2.1, 0, none⟩)].toArray, .func (.func 125) #[] [.pointer (some ⟨y.1, 0, none⟩), .pointer (some ⟨y.2.1, 0, none⟩)].toArray] } =>
      [pts y.1.1 (.cells [.string n].toArray 9), pts y.1.2.1 (.cells [.string s].toArray 9), pts y.1.2.2 (.cells [.func (.func 125) #[] [.pointer (some ⟨y.1.1, 0, none⟩), .pointer (some ⟨y.1.2.1, 0, none⟩)].toArray].toArray 137)]
  | .trunc n k, v => exP fun y : { y : Nat × Nat // v = [.func (.func 132) #[] [.pointer (some ⟨y.1, 0, none⟩), .pointer (some ⟨y.2, 0, none⟩)].toArray, .nilFunc] } => [pts y.1.1 (.cells [.string n].toArray 9), pts y.1.2 (.cells [.int .i64 k].toArray 3)]
  | .ren a b, v => exP fun y : { y : Nat × Nat // v = [.func (.func 128) #[] [.pointer (some ⟨y.1, 0, none⟩), .pointer (some ⟨y.2, 0, none⟩)].toArray, .nilFunc] } => [pts y.1.1 (.cells [.string a].toArray 9), pts y.1.2 (.cells [.string b].toArray 9)]
  | .rem a, v => exP fun y : { y : Nat // v = [.func (.func 133) #[] [.pointer (some ⟨y, 0, none⟩)].toArray, .nilFunc] } => [pts y.1 (.cells [.string a].toArray 9)]

def clsP : List Cl → List (List Value) → List HProp
  | [], _ => []
  | _ :: _, [] => []
  | c :: cs, v :: vs => clP c v :: clsP cs vs

structure DA where
  m1 : Nat
  m2 : Nat
  v : Value
  vs : List (List Value)

def dkC (y : DA) (d : Dk) : List Value := [.map (some y.m1), .map (some y.m2), y.v, .int .i64 d.room, .int .i64 d.fuse, .bool d.still]
/-- A disk, in memory. -/
def diskL (b : Nat) (d : Dk) (y : { y : DA // y.v.oneCell' = true ∧ y.vs.length = d.loose.length }) : List HProp :=
  [pts b (.cells (dkC y.1 d).toArray 122), mapK KStr y.1.m1 (encF d.files), mapK KStr y.1.m2 (encF d.sure), row 139 2 y.1.v y.1.vs, fun h => SatL (clsP d.loose y.1.vs) h]
def diskP (b : Nat) (d : Dk) : HProp := exP (diskL b d)

theorem disk_in {b m1 m2 : Nat} {d : Dk} {v : Value} {vs : List (List Value)} (hv : v.oneCell' = true) (hvs : vs.length = d.loose.length) {L : List HProp} {h : Frag}
    (s : SatL ([pts b (.cells [.map (some m1), .map (some m2), v, .int .i64 d.room, .int .i64 d.fuse, .bool d.still].toArray 122), mapK KStr m1 (encF d.files), mapK KStr m2 (encF d.sure), row 139 2 v vs, fun h => SatL (clsP d.loose vs) h] ++ L) h) : SatL (diskP b d :: L) h :=
  ex_in (M := diskL b d) ⟨⟨m1, m2, v, vs⟩, hv, hvs⟩ rfl s

theorem burn_spec (b : Nat) (cs : List Value) (a0 a1 a2 a3 : Value) (fuse : Int) (st : Bool) (h0 : -1 ≤ fuse) (hm : fuse ≤ 9223372036854775807) : FSpec Try.prog 78 [.pointer (some ⟨b, 0, none⟩)] [pts b (.cells [a0, a1, a2, a3, .int .i64 fuse, .bool st].toArray 122)] Unit (fun _ => True)
    (fun _ => .int .i64 (if fuse = 0 then 20 else 0)) (fun _ => [pts b (.cells [a0, a1, a2, a3, .int .i64 (if fuse = 0 then fuse else if (-1 : Int) > fuse - 1 then -1 else fuse - 1), .bool (if fuse = 0 then true else st)].toArray 122)]) := by
  by_cases hf : fuse = 0
  · have t1 : decide (fuse = 0) = true := by simpa using hf
    refine spec_intro [] _ Try.func78 rfl Try.ntmps78 (by rfl) (fun w0 R => ?_)
    repeat' (first | (refine go_Z ?_; intros) | (refine gs_Z ?_ ?_ <;> (intro hgd; try (simp only [Bool.not_true, Bool.not_false] at hgd))) | (refine gc_Z ?_ ?_ <;> intro _) | fail)
    rw [if_pos hf, if_pos hf, if_pos hf]
    subst hf
    (refine rt_Z (y := ()) (hrs := Try.results78) (hv := ?_) (hφ := ?_))
    · rfl
    · trivial
  · have t1 : decide (fuse = 0) = false := by simpa using hf
    refine spec_intro [] _ Try.func78 rfl Try.ntmps78 (by rfl) (fun w0 R => ?_)
    repeat' (first | (refine go_Z ?_; intros) | (refine gs_Z ?_ ?_ <;> (intro hgd; try (simp only [Bool.not_true, Bool.not_false] at hgd))) | (refine gc_Z ?_ ?_ <;> intro _) | fail)
    rw [if_neg hf, if_neg hf, if_neg hf]
    (refine rt_Z (y := ()) (hrs := Try.results78) (hv := ?_) (hφ := ?_))
    · rfl
    · trivial

end Go.Proofs.Ytgmobpngcilgjaa
