/- THE FRAMEWORK, PART W: words for the walks whose premises are found by tactics that stand here once. -/
import Derived.Test.YtgmobpngcilgjaaFwI
namespace Go.Fx
open Go

inductive Tag {α : Type} (a : α) : Prop
  | mk
structure Hid (G : Prop) : Prop where
  out : G
theorem takeD {L pre R : List HProp} (t : Take L pre R := by (repeat (first | (apply Take.cons; (focus ((repeat (first | exact Sel.here | apply Sel.there)); first | done | fail))) | exact Take.nil)); first | done | fail) : Take L pre R := t
theorem selD {L R : List HProp} {A : HProp} (t : Sel L A R := by (repeat (first | exact Sel.here | apply Sel.there)); first | done | fail) : Sel L A R := t
theorem keepD {L R : List HProp} (t : Keep L R := by (repeat (first | exact Keep.refl | apply Keep.drop)); first | done | fail) : Keep L R := t
theorem memD {L : List HProp} {b : Nat} {o : Obj} (t : RdIn L b o := by (repeat (first | exact RdIn.here (Rd.pts _ _) | (apply RdIn.here; apply Rd.orig; assumption) | (apply RdIn.here; with_reducible assumption) | apply RdIn.there)); first | done | fail) : RdIn L b o := t
theorem entD {L pre R : List HProp} (t : ∀ h, SatL L h → SatL (pre ++ R) h := by exact (fun _ h => ent (by (repeat (first | (apply Take.cons; (focus ((repeat (first | exact Sel.here | apply Sel.there)); first | done | fail))) | exact Take.nil))) (by (repeat (first | exact Keep.refl | apply Keep.drop))) h)) : ∀ h, SatL L h → SatL (pre ++ R) h := t
theorem ok_drawT {X : Cx} {ops : Array Oper} {ds : List Deferred} {ρ : Regs} {L : List HProp} {Q : Exit → Act → World → Prop} {nb : List Nat} {Ls : List HProp} {id : Nat} {cv : List TypeId} (_ : Tag nb) (hm : X.P.follows .mixedOrders = true) (hcv : X.cv = cv) (hok : regionOk ops (kdf cv ops) nb = true) (hsub : ∀ h, SatL L h → SatL Ls h)
    (h : OpsL X ops nb (Q .normal) 0 ops.toList Ls ds ρ L) : Ok X (.region id ops true) ds ρ L Q := ok_draw nb Ls hm hcv hok hsub h
theorem out1T {A : HProp} {L R : List HProp} (_ : Tag A) (t : Take L [A] R) {h : Frag} (s : SatL L h) : SatL (A :: R) h := t.out s
end Go.Fx
