/- Texts merged: QcH QcI QcK QcL. -/
import Derived.Test.YtphaegcoldpclaaGreatDoorQcG
import Derived.Test.YtphaegcoldpclaaGreatDoorG17
set_option linter.unusedSimpArgs false
set_option linter.unusedVariables false
set_option maxRecDepth 100000
namespace Go.Proofs.YtphaegcoldpclaaGreatDoor
open Go Go.Fx Go.Proofs Go.Pl

def upQ (q : List Rr) (t : Int) (ask : List Vl → Bool) (n : Nat) : List Rw := ((q.take n).filter fun x => decide (x.t = t) && ask x.l).map fun x => (x.lv, x.l)
abbrev RwY := V1s × List Rw
end Go.Proofs.YtphaegcoldpclaaGreatDoor
set_option linter.unusedSimpArgs false
set_option linter.unusedVariables false
set_option maxRecDepth 100000
namespace Go.Proofs.YtphaegcoldpclaaGreatDoor
open Go Go.Fx Go.Proofs Go.Pl

def askOf (s : Sc) (t : Int) (key : Vl) (l : List Vl) : Bool := decide (0 ≤ (tabAt s t).ref) && decide ((l[(tabAt s t).ref.toNat]?).getD default = key)
end Go.Proofs.YtphaegcoldpclaaGreatDoor
set_option linter.unusedSimpArgs false
set_option linter.unusedVariables false
set_option maxRecDepth 100000
namespace Go.Proofs.YtphaegcoldpclaaGreatDoor
open Go Go.Fx Go.Proofs Go.Pl

def Rr.tl (x : Rr) : Int × List Vl := (x.t, x.l)
theorem RefQ.congr {r : Rl} {q q' : List Rr} (h : RefQ r q) (e : q'.map Rr.tl = q.map Rr.tl) : RefQ r q' := by
  have e1 : ∀ l : List Rr, l.map (Rr.pl r.s) = (l.map Rr.tl).map (fun x => ((x.1, Pl.keyOf r.s x.1 x.2), x.2)) := fun l => by rw [List.map_map]; rfl
  refine ⟨by rw [e1, e, ← e1]; exact h.perm, ?_⟩
  have h2 := h.srt
  have e2 : ∀ l : List Rr, (l.Pairwise fun x y => pltB (x.pl r.s).1 (y.pl r.s).1 = true) ↔ ((l.map (Rr.pl r.s)).Pairwise fun x y => pltB x.1 y.1 = true) := fun l => by rw [List.pairwise_map]
  rw [e2, e1] at h2
  rw [e2, e1, e]
  exact h2
abbrev G14 (A : HProp) := { g : V1s × List Rr × HProp // Ext A g.2.2 ∧ (∀ x ∈ g.2.1, Vw g.2.2 4 x.lv.1 (x.l.map valV)) }
abbrev GOp (A : HProp) := { g : V1s × List Om × HProp // Ext A g.2.2 ∧ (∀ x ∈ g.2.1, OmR g.2.2 x) }
end Go.Proofs.YtphaegcoldpclaaGreatDoor
set_option linter.unusedSimpArgs false
set_option linter.unusedVariables false
set_option maxRecDepth 100000
namespace Go.Proofs.YtphaegcoldpclaaGreatDoor
open Go Go.Fx Go.Proofs Go.Pl

def ofF (b bx bt bk : Nat) (t : Int) (k : Vl) : List HProp := [pts bx (.cells [.pointer (some ⟨b, 0, none⟩)].toArray 31), pts bt (.cells [.int .i64 t].toArray 3), pts bk (.cells (valV k).toArray 28)]
theorem relSchema_spec (b : Nat) (r : Rl) (P : HProp) (hok : r.Ok) :
    FSpec Tryz.prog 47 [.pointer (some ⟨b, 0, none⟩)] [relP P b r, P] (V1s × List Tb × HProp) (fun y => SV y.2.2 y.1.1 y.2.1 ∧ y.2.1.map Tb.c = r.s ∧ Ext P y.2.2) (fun y => .agg #[y.1.1]) (fun y => [relP y.2.2 b r, y.2.2]) := by
  refine fspec_ex ?_
  rintro ⟨⟨vs, ts, m, es⟩, hy⟩
  have hy' := hy
  obtain ⟨hvc, hsv, hss, hes⟩ := hy
  dsimp only at hvc hsv hss hes
  unfold relL
  dsimp only
  have hvw := hsv.vw
  obtain ⟨ds, _, hah, h1, h12⟩ := checkS_ok hok.sch
  have hcl := relClone_spec vs ts P hsv (by rw [← hss, List.length_map] at h1; exact h1) (by rw [← hss, List.length_map] at h12; omega) (fun t ht => by have := (hah.tab t (by rw [← hss]; exact ht)).len; omega)
  refine spec_intro [] _ Tryz.func47 rfl Tryz.ntmps47 (by rfl) (fun w0 R => ?_)
  refine ok_learn (VwIn.slice (VwIn.there (VwIn.there (VwIn.here hvw)))) ?_
  rintro ⟨pv, cv, rfl⟩
  repeat' (first | (refine go_Y ?_; intros) | (refine gs_Y ?_ ?_ <;> (intro hgd; try (simp only [bn] at hgd))) | (refine gc_Y ?_ ?_ <;> intro _) | fail)
  refine cl_Y (hcl) ?_
  rintro ⟨⟨v, hv⟩, ts', P1⟩ ⟨hsv', hmap', hE⟩
  dsimp only at hsv' hmap' hE ⊢
  refine ops_learn (VwIn.slice (n := 5) (v := v) (xs := ts'.map tbV) (VwIn.here hsv'.vw)) ?_
  rintro ⟨pv', cv', rfl⟩
  repeat' (first | (refine go_Y ?_; intros) | (refine gs_Y ?_ ?_ <;> (intro hgd; try (simp only [bn] at hgd))) | (refine gc_Y ?_ ?_ <;> intro _) | fail)
  refine cont_map (fun _ h => rel_in (b := b) (r := r) (P := P1) (RlOK.ext hE hy') (Take.out takeD h)) ?_
  (refine rt_Y (y := (⟨.slice pv' (ts'.map tbV).length cv', rfl⟩, ts', P1)) (hrs := Tryz.results47) (hv := ?_) (hφ := ?_))
  · rfl
  · exact ⟨hsv', hmap'.trans hss, hE⟩
end Go.Proofs.YtphaegcoldpclaaGreatDoor
