/- Saves, in plain Lean. -/
import Derived.Test.YtgmobpngcilgjaaMnP
import Derived.Test.YtgmobpngcilgjaaDkQ
set_option linter.unusedVariables false
namespace Go.Pl
open Go Go.Fx

def dotNew : BA := ⟨#[46, 110, 101, 119]⟩
def stepD (nm s : BA) : Nat → Dk → Dk × Int
  | 0, d => ((d.remove (nm ++ dotNew)).1, if (d.remove (nm ++ dotNew)).2 = 3 then 0 else (d.remove (nm ++ dotNew)).2)
  | 1, d => d.append (nm ++ dotNew) s
  | 2, d => d.sync
  | 3, d => d.rename (nm ++ dotNew) nm
  | _, d => d.sync
def runD (nm s : BA) : Nat → Dk → Dk × Int
  | 0, d => (d, 0)
  | k + 1, d => if (stepD nm s (4 - k) d).2 ≠ 0 then stepD nm s (4 - k) d else runD nm s k (stepD nm s (4 - k) d).1
def saveD (nm s : BA) (d : Dk) : Dk × Int := runD nm s 5 d

theorem save_run (nm s : BA) (d : Dk) : runD nm s (5 - 0) d = saveD nm s d := by unfold saveD; rfl
theorem run_zero (nm s : BA) (d : Dk) : runD nm s 0 d = (d, 0) := rfl
theorem run_bad {nm s : BA} {k : Nat} {d : Dk} (h : (stepD nm s (4 - k) d).2 ≠ 0) : runD nm s (k + 1) d = stepD nm s (4 - k) d := by rw [runD, if_pos h]
theorem run_good {nm s : BA} {k : Nat} {d : Dk} (h : (stepD nm s (4 - k) d).2 = 0) : runD nm s (k + 1) d = runD nm s k (stepD nm s (4 - k) d).1 := by rw [runD, if_neg (by simpa using h)]
theorem step0 (nm s : BA) (d : Dk) : stepD nm s 0 d = ((d.remove (nm ++ dotNew)).1, if (d.remove (nm ++ dotNew)).2 = 3 then 0 else (d.remove (nm ++ dotNew)).2) := rfl
theorem step1 (nm s : BA) (d : Dk) : stepD nm s 1 d = d.append (nm ++ dotNew) s := rfl
theorem step2 (nm s : BA) (d : Dk) : stepD nm s 2 d = d.sync := rfl
theorem step3 (nm s : BA) (d : Dk) : stepD nm s 3 d = d.rename (nm ++ dotNew) nm := rfl
theorem step4 (nm s : BA) (d : Dk) : stepD nm s 4 d = d.sync := rfl
theorem doC_loose (d : Dk) (c : Cl) : (d.doC c).1.loose.length ≤ d.loose.length + 1 := by unfold Dk.doC; split <;> simp
theorem append_loose (d : Dk) (n s : BA) : (d.append n s).1.loose.length ≤ d.loose.length + 1 := by
  unfold Dk.append; split
  · simp
  · split
    · simp
    · exact doC_loose _ _
theorem rename_loose (d : Dk) (n s : BA) : (d.rename n s).1.loose.length ≤ d.loose.length + 1 := by
  unfold Dk.rename; split
  · simp
  · split
    · simp
    · split
      · simp
      · exact doC_loose _ _
theorem remove_loose (d : Dk) (n : BA) : (d.remove n).1.loose.length ≤ d.loose.length + 1 := by
  unfold Dk.remove; split
  · simp
  · split
    · simp
    · exact doC_loose _ _
theorem truncate_loose (d : Dk) (n : BA) (k : Int) : (d.truncate n k).1.loose.length ≤ d.loose.length + 1 := by
  unfold Dk.truncate; split
  · simp
  · split
    · simp
    · split
      · simp
      · split
        · simp
        · exact doC_loose _ _
theorem sync_loose (d : Dk) : d.sync.1.loose.length ≤ d.loose.length + 1 := by
  unfold Dk.sync; split
  · simp
  · split
    · simp
    · simp [Dk.settle]
theorem step_loose (nm s : BA) (i : Nat) (d : Dk) : (stepD nm s i d).1.loose.length ≤ d.loose.length + 1 := by
  unfold stepD
  split
  · exact remove_loose _ _
  · exact append_loose _ _ _
  · exact sync_loose _
  · exact rename_loose _ _ _
  · exact sync_loose _
theorem step_ok {nm s : BA} {i : Nat} {d : Dk} (h : d.Ok) (hs : s.size ≤ 549755813888) : (stepD nm s i d).1.Ok := by
  unfold stepD
  split
  · exact h.remove
  · exact h.append hs
  · exact h.sync
  · exact h.rename
  · exact h.sync
theorem run_ok {nm s : BA} (hs : s.size ≤ 549755813888) : ∀ (k : Nat) {d : Dk}, d.Ok → (runD nm s k d).1.Ok ∧ (runD nm s k d).1.loose.length ≤ d.loose.length + k
  | 0, d, h => ⟨h, by simp [runD]⟩
  | k + 1, d, h => by
    unfold runD
    have h1 := step_loose nm s (4 - k) d
    split
    · exact ⟨step_ok h hs, by omega⟩
    · have := run_ok (nm := nm) hs k (step_ok (nm := nm) (i := 4 - k) h hs)
      exact ⟨this.1, by omega⟩
theorem save_ok {nm s : BA} {d : Dk} (h : d.Ok) (hs : s.size ≤ 549755813888) : (saveD nm s d).1.Ok ∧ (saveD nm s d).1.loose.length ≤ d.loose.length + 5 := run_ok hs 5 h
attribute [irreducible] runD saveD stepD
/-- What is read of a file. -/
def loadD (nm : BA) (d : Dk) : Mn × Int := if (d.read nm 0 16777216).2 ≠ 0 then (mn0, (d.read nm 0 16777216).2) else getM (d.read nm 0 16777216).1
end Go.Pl
