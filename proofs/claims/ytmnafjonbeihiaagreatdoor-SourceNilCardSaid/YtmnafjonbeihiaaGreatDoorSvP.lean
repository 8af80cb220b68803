import Derived.Test.YtmnafjonbeihiaaGreatDoorH28
import Derived.Lib.Bytealg
set_option linter.unusedSimpArgs false
set_option linter.unusedVariables false
namespace Go.Pl
open Go
structure TC {α : Type} (c : α → α → Int) : Prop where
  anti : ∀ x y, c x y < 0 ↔ 0 < c y x
  tr : ∀ x y z, c x y ≤ 0 → c y z ≤ 0 → c x z ≤ 0
section
variable {α : Type} {c : α → α → Int}
theorem TC.self (h : TC c) (x : α) : c x x = 0 := by
  have := h.anti x x
  omega
theorem TC.zero (h : TC c) {x y : α} (e : c x y = 0) : c y x = 0 := by
  have h1 := h.anti x y
  have h2 := h.anti y x
  omega
def lexC (c d : α → α → Int) (x y : α) : Int := if c x y = 0 then d x y else c x y
theorem TC.map {β : Type} (h : TC c) (f : β → α) : TC (fun x y => c (f x) (f y)) := ⟨fun x y => h.anti _ _, fun x y z => h.tr _ _ _⟩
end
def cmpI (a b : Int) : Int := if a < b then -1 else if b < a then 1 else 0
def compareV (k : Int → Int) : Vl → Vl → Int :=
  lexC (fun a b => cmpI a.kind b.kind) (lexC (fun a b => cmpI a.int b.int) (lexC (fun a b => cmpI (k a.real) (k b.real)) (fun a b => Lib.compareBytes a.text.data.toList b.text.data.toList)))
end Go.Pl
