/- Texts merged: MnA MnB MnR. -/
import Derived.Test.YtadgdikijdmceaaGreatG13
import Derived.Test.YtadgdikijdmceaaGreatG4
import Derived.Test.YtadgdikijdmceaaGreatG7
import Derived.Test.YtadgdikijdmceaaGreatG2
set_option linter.unusedSimpArgs false
set_option linter.unusedVariables false
set_option maxRecDepth 100000
namespace Go.Proofs.YtadgdikijdmceaaGreat
open Go Go.Fx Go.Proofs Go.Pl

theorem view_take {n : Nat} {p : Option Addr} {len cap k : Nat} {xs : List (List Value)} {h : Frag} (v : view n (.slice p len cap) xs h) (hk : k ≤ xs.length) : view n (.slice p k cap) (xs.take k) h := by
  obtain ⟨g, p', cap', e, h2, h3, h4⟩ := v
  simp only [Value.slice.injEq] at e
  obtain ⟨rfl, rfl, rfl⟩ := e
  have hlen : (xs.take k).length = k := by rw [List.length_take]; omega
  refine ⟨fun x hx => g x (List.mem_of_mem_take hx), p, cap, by rw [hlen], ?_, fun e => by rw [h3 e]; simp, fun b o hp hne => ?_⟩
  · rcases h2 with h2 | h2
    · left; rw [h2]; simp
    · exact .inr h2
  · obtain ⟨cs, T, fr, hb, hc⟩ := h4 b o hp (by rintro rfl; simp at hne)
    refine ⟨cs, T, fr, hb, fun j u hj => hc j u ?_⟩
    have e : xs.flatten = (xs.take k).flatten ++ (xs.drop k).flatten := by rw [← List.flatten_append, List.take_append_drop]
    rw [e, List.getElem?_append_left (List.getElem?_eq_some_iff.1 hj).1]
    exact hj
theorem Vw.take {A : HProp} {n : Nat} {p : Option Addr} {len cap k : Nat} {xs : List (List Value)} (v : Vw A n (.slice p len cap) xs) (hk : k ≤ xs.length) : Vw A n (.slice p k cap) (xs.take k) := fun h hh => view_take (v h hh) hk

end Go.Proofs.YtadgdikijdmceaaGreat
set_option linter.unusedSimpArgs false
set_option linter.unusedVariables false
set_option maxRecDepth 100000
namespace Go.Proofs.YtadgdikijdmceaaGreat
open Go Go.Fx Go.Proofs Go.Pl

def put8 (n : Int) : BA := ⟨(putL n.toNat 8).toArray⟩
def put8s : List Int → BA
  | [] => ⟨#[]⟩
  | n :: l => put8 n ++ put8s l
def mNums (m : Mn) : List Int := m.wal :: m.next :: (m.runs.length : Int) :: m.runs
def mBody (m : Mn) : BA := put8s (mNums m)
def mBytes (m : Mn) : BA := frameOf (mBody m)

end Go.Proofs.YtadgdikijdmceaaGreat
set_option linter.unusedVariables false
set_option maxRecDepth 20000
namespace Go.Proofs.YtadgdikijdmceaaGreat
open Go Go.Fx Go.Pl

def mA : Mn := ⟨1, [], 2⟩
def mB : Mn := ⟨2, [], 3⟩
def nM : BA := ⟨#[109]⟩
def nX : BA := ⟨#[120]⟩
def M0 : Dk := newD 1000
def M1 : Dk := (saveD nM (mBytes mA) M0).1
def M2 : Dk := M1.fuseTo 2
def M3 : Dk := (saveD nM (mBytes mB) M2).1
def M4 : Dk := M3.crash 0 0
end Go.Proofs.YtadgdikijdmceaaGreat
