import Derived.Test.YtadgdikijdmceaaGreatMnP
import Derived.Test.YtadgdikijdmceaaGreatG2
set_option linter.unusedVariables false
namespace Go.Pl
open Go Go.Fx

def dotNew : BA := ⟨#[46, 110, 101, 119]⟩
def stepD (nm s : BA) : Nat → Dk → Dk × Int
  | 0, d => ((d.remove (nm ++ dotNew)).1, if (d.remove (nm ++ dotNew)).2 = 3 then 0 else (d.remove (nm ++ dotNew)).2)
  | 1, d => d.append (nm ++ dotNew) s
  | 2, d => d.sync
  | 3, d => d.rename (nm ++ dotNew) nm
  | _, d => d.sync
def runD (nm s : BA) : Nat → Dk → Dk × Int
  | 0, d => (d, 0)
  | k + 1, d => if (stepD nm s (4 - k) d).2 ≠ 0 then stepD nm s (4 - k) d else runD nm s k (stepD nm s (4 - k) d).1
def saveD (nm s : BA) (d : Dk) : Dk × Int := runD nm s 5 d

theorem run_zero (nm s : BA) (d : Dk) : runD nm s 0 d = (d, 0) := rfl
theorem doC_loose (d : Dk) (c : Cl) : (d.doC c).1.loose.length ≤ d.loose.length + 1 := by unfold Dk.doC; split <;> simp
theorem append_loose (d : Dk) (n s : BA) : (d.append n s).1.loose.length ≤ d.loose.length + 1 := by
  unfold Dk.append; split
  · simp
  · split
    · simp
    · exact doC_loose _ _
theorem remove_loose (d : Dk) (n : BA) : (d.remove n).1.loose.length ≤ d.loose.length + 1 := by
  unfold Dk.remove; split
  · simp
  · split
    · simp
    · exact doC_loose _ _
theorem truncate_loose (d : Dk) (n : BA) (k : Int) : (d.truncate n k).1.loose.length ≤ d.loose.length + 1 := by
  unfold Dk.truncate; split
  · simp
  · split
    · simp
    · split
      · simp
      · split
        · simp
        · exact doC_loose _ _
attribute [irreducible] runD saveD stepD
def loadD (nm : BA) (d : Dk) : Mn × Int := if (d.read nm 0 16777216).2 ≠ 0 then (mn0, (d.read nm 0 16777216).2) else getM (d.read nm 0 16777216).1
end Go.Pl
