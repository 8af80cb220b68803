/- THE FRAMEWORK, PART J: from a contract to a law's row: what stood stays; the arguments read as they did. -/
import Derived.Test.YtgmobpngcilgjaaFwI
import Derived.ProofKit
import Derived.SizedLaws
namespace Go.Fx
open Go Go.ChangeShapes Go.WideShapes Go.ChangeAt Go.RowKit

theorem orig_self (W : World) : Sats W W [orig W] :=
  ⟨rfl, rfl, rfl, Nat.le_refl _, ⟨fun b => W.heap[b]?, fun _ => none, (fun _ _ _ _ e => by cases e), Frag.le.refl _, (fun _ _ e => by cases e), fun _ _ => rfl, trivial⟩⟩

theorem below_of {W W' : World} {L : List HProp} (s : Sats W W' (orig W :: L)) : Below W.heap.size W W' := by
  obtain ⟨h1, h2, _, l1, _, ho, _⟩ := s.heap
  refine ⟨s.os, s.tape, s.output, s.size, fun k hk => ?_⟩
  have e := ho k hk
  have hk' : W.heap[k]? = some W.heap[k] := Array.getElem?_eq_getElem hk
  rw [hk'] at e ⊢
  exact l1 _ _ e

/-- A contract that needs nothing of the heap. -/
theorem calls_true {P : Program} {f : FuncId} {args : List Value} {Y : Type} {φ : Y → Prop} (s : FSpec P f args [] Y φ (fun _ => .bool true) (fun _ => [])) (W : World) :
    Calls P f args.toArray W fun e W' => e = .returned (.bool true) ∧ Below W.heap.size W W' := by
  refine (s W W [orig W] (orig_self W)).mono ?_
  rintro e W' ⟨y, _, rfl, hs⟩
  exact ⟨rfl, below_of hs⟩

/-- A contract that reads what stood. -/
theorem calls_true_orig {P : Program} {f : FuncId} {args : List Value} {Y : Type} {φ : Y → Prop} {W : World} (s : FSpec P f args [orig W] Y φ (fun _ => .bool true) (fun _ => [orig W])) :
    Calls P f args.toArray W fun e W' => e = .returned (.bool true) ∧ Below W.heap.size W W' := by
  refine (s W W [] (orig_self W)).mono ?_
  rintro e W' ⟨y, _, rfl, hs⟩
  exact ⟨rfl, below_of hs⟩

theorem below_trodAll {H : Type} {enc : TypeId × Value → H} {P : Program} (hl : laidOutB P = true) {W W' : World} (hb : Below W.heap.size W W') : ∀ {ts : List TypeId} {vs : List Value} {ds : List (DataW H)} {ps : List MemPlace},
    ts.all (fun t => P.readableRec t && Nat.blt t P.types.size) = true → DataW.TrodAll enc P W 0 (fun _ => true) true ts vs ds ps → (∀ x ∈ ps, x.block < W.heap.size) → DataW.TrodAll enc P W' 0 (fun b => decide (b < W.heap.size)) true ts vs ds ps
  | [], [], [], _, _, h, _ => h
  | [], [], _ :: _, _, _, h, _ => h.elim
  | [], _ :: _, _, _, _, h, _ => by cases h
  | _ :: _, [], _, _, _, h, _ => by cases h
  | _ :: _, _ :: _, [], _, _, h, _ => by cases h
  | t :: ts, v :: vs, d :: ds, ps, ht, h, hlt => by
    obtain ⟨p, q, h1, h2, h3⟩ := h
    subst h3
    simp only [List.all_cons, Bool.and_eq_true] at ht
    exact ⟨p, q, Below.trod hl ht.1.1 (by simpa using ht.1.2) h1 hb (fun x hx => hlt x (List.mem_append_left _ hx)), below_trodAll hl hb ht.2 h2 (fun x hx => hlt x (List.mem_append_right _ hx)), rfl⟩
end Go.Fx
