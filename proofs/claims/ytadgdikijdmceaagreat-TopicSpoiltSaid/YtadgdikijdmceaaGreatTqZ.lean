import Derived.Test.YtadgdikijdmceaaGreatTqY
set_option linter.unusedSimpArgs false
set_option linter.unusedVariables false
set_option maxRecDepth 100000
namespace Go.Proofs.YtadgdikijdmceaaGreat
open Go Go.Fx Go.Proofs Go.Pl

theorem Tw.zero {name : BA} {seg f : Nat} {l : List Sg} (h : Tw name seg f l) (e : allR l = []) : f = 0 := by
  rcases h.sq with ⟨_, h⟩ | ⟨l0, x, rfl, _, hx⟩
  · exact h
  · rw [allR_app, allR_one] at e
    exact absurd (List.append_eq_nil_iff.1 e).2 hx
theorem Firm.crash {d : Dk} {F : FS} (h : Firm d F) (keep torn : Int) : Firm (d.crash keep torn) F := ⟨h.ok.crash keep torn, rfl, rfl, by
  show FEq (d.torn _ torn) F
  rw [torn_none h.loose, h.sure]; exact h.eq⟩
theorem Firm.new {room : Int} (h0 : 0 ≤ room) (h1 : room ≤ 16777216) : Firm (newD room) [] := ⟨.new h0 h1, rfl, rfl, .refl _⟩
theorem Firm.room {d : Dk} {F : FS} (h : Firm d F) (n : Int) : Firm (roomD d n) F ∧ (roomD d n).fuse = d.fuse := by
  have ho := roomD_ok h.ok n
  unfold roomD at ho ⊢
  split
  · exact ⟨h, rfl⟩
  · rename_i h1
    rw [if_neg h1] at ho
    exact ⟨⟨ho, h.still, h.loose, h.eq⟩, rfl⟩
theorem open_new18 {seg : Nat} {room : Int} (h0 : 0 ≤ room) (h1 : room ≤ 16777216) : topenT (newD room) nT seg = (newD room, 0, []) := by
  rw [topen_eq may_nT rfl]
  exact load_nil (.new h0 h1)
theorem tpV_ok (t : Nat) : tpV t 0 = .pointer (some ⟨t, 0, none⟩) := rfl
abbrev PlI (A : HProp) (seg : Nat) (xs : List Ts) (full : Bool) (i : Nat) (s : PlS) : Prop := PlOk A seg s ∧ s.d.fuse = -1 ∧ wtL s.all ≤ wtS (xs.take i) ∧ (full = true ∨ s.d.room = 1048576)
end Go.Proofs.YtadgdikijdmceaaGreat
