/- Disks, in plain Lean: what a step does to the fuse. -/
import Derived.Test.YtgmobpngcilgjaaDkQ
set_option linter.unusedVariables false
namespace Go.Pl
open Go

/-- What a call answers. -/
def callD (d : Dk) (x : St) : Dk × Int :=
  if x.op = 1 then d.append x.name x.text else if x.op = 2 then d.truncate x.name x.n else if x.op = 3 then d.rename x.name x.text else d.remove x.name

/-- What each call that changes keeps to. -/
def Good (d : Dk) (r : Dk × Int) : Prop :=
  (r.2 = 0 ∧ d.fuse ≠ 0 ∧ r.1.fuse = (if (-1 : Int) > d.fuse - 1 then -1 else d.fuse - 1) ∧ r.1.still = d.still ∧ d.still = false ∧ r.1.loose.length ≤ d.loose.length + 1) ∨
  (r.2 ≠ 0 ∧ r.1.files = d.files ∧ r.1.loose = d.loose ∧ r.1.fuse = d.fuse ∧ (r.2 = 20 → d.still = true ∨ d.fuse = 0) ∧ (r.1.still = true → d.still = true ∨ d.fuse = 0))

theorem good_same {d : Dk} {e : Int} (h : e ≠ 0) (h20 : e = 20 → d.still = true ∨ d.fuse = 0) : Good d (d, e) := .inr ⟨h, rfl, rfl, rfl, h20, fun h => .inl h⟩
theorem live_20 {d : Dk} {l : List BA} (h : d.live l = 20) : d.still = true := by
  unfold Dk.live at h
  split at h
  · assumption
  · split at h <;> omega
theorem live_0 {d : Dk} {l : List BA} (h : d.live l = 0) : d.still = false := by
  unfold Dk.live at h
  split at h
  · omega
  · rename_i h1; simpa using h1
theorem good_doC {d : Dk} {c : Cl} (h : d.still = false) : Good d (d.doC c) := by
  unfold Dk.doC
  split
  · rename_i hf
    exact .inr ⟨by simp, rfl, rfl, rfl, fun _ => .inr hf, fun _ => .inr hf⟩
  · rename_i hf
    exact .inl ⟨rfl, hf, rfl, rfl, h, by simp⟩
theorem good_append {d : Dk} {n s : BA} : Good d (d.append n s) := by
  unfold Dk.append
  by_cases h : d.live [n] = 0
  · rw [if_neg (by simp [h])]
    split
    · exact good_same (by decide) (fun h => by omega)
    · exact good_doC (live_0 h)
  · rw [if_pos h]
    exact good_same h fun h => .inl (live_20 h)
theorem good_truncate {d : Dk} {n : BA} {k : Int} : Good d (d.truncate n k) := by
  unfold Dk.truncate
  by_cases h : d.live [n] = 0
  · rw [if_neg (by simp [h])]
    split
    · exact good_same (by decide) (fun h => by omega)
    · split
      · exact good_same (by decide) (fun h => by omega)
      · split
        · exact good_same (by decide) (fun h => by omega)
        · exact good_doC (live_0 h)
  · rw [if_pos h]
    exact good_same h fun h => .inl (live_20 h)
theorem good_rename {d : Dk} {a b : BA} : Good d (d.rename a b) := by
  unfold Dk.rename
  by_cases h : d.live [a, b] = 0
  · rw [if_neg (by simp [h])]
    split
    · exact good_same (by decide) (fun h => by omega)
    · split
      · exact good_same (by decide) (fun h => by omega)
      · exact good_doC (live_0 h)
  · rw [if_pos h]
    exact good_same h fun h => .inl (live_20 h)
theorem good_remove {d : Dk} {a : BA} : Good d (d.remove a) := by
  unfold Dk.remove
  by_cases h : d.live [a] = 0
  · rw [if_neg (by simp [h])]
    split
    · exact good_same (by decide) (fun h => by omega)
    · exact good_doC (live_0 h)
  · rw [if_pos h]
    exact good_same h fun h => .inl (live_20 h)
theorem good_sync {d : Dk} : Good d d.sync := by
  unfold Dk.sync
  by_cases h : d.live [] = 0
  · rw [if_neg (by simp [h])]
    split
    · rename_i hf
      exact .inr ⟨by simp, rfl, rfl, rfl, fun _ => .inr hf, fun _ => .inr hf⟩
    · rename_i hf
      exact .inl ⟨rfl, hf, rfl, rfl, live_0 h, by simp [Dk.settle]⟩
  · rw [if_pos h]
    exact good_same h fun h => .inl (live_20 h)
theorem good_call {d : Dk} {x : St} : Good d (callD d x) := by
  unfold callD
  split
  · exact good_append
  · split
    · exact good_truncate
    · split
      · exact good_rename
      · exact good_remove
theorem ok_call {d : Dk} {x : St} (h : d.Ok) (ht : x.text.size ≤ 549755813888) : (callD d x).1.Ok := by
  unfold callD
  split
  · exact h.append ht
  · split
    · exact h.truncate
    · split
      · exact h.rename
      · exact h.remove

/-- The fuse, behind n calls. -/
structure FInv (F : Int) (n : Nat) (d : Dk) : Prop where
  fuse : d.fuse = F - n
  pos : 0 ≤ d.fuse
  still : d.still = true → d.fuse = 0

theorem FInv.ok {F : Int} {n : Nat} {d : Dk} {r : Dk × Int} (h : FInv F n d) (g : Good d r) (e : r.2 = 0) : FInv F (n + 1) r.1 ∧ r.1.loose.length ≤ d.loose.length + 1 := by
  rcases g with ⟨_, g1, g2, g3, g4, g5⟩ | ⟨g, _⟩
  · have h1 := h.fuse
    have h2 := h.pos
    refine ⟨⟨?_, ?_, fun hs => ?_⟩, g5⟩
    · rw [g2]; split <;> omega
    · rw [g2]; split <;> omega
    · rw [g3, g4] at hs; cases hs
  · exact absurd e g
theorem FInv.bad {F : Int} {n : Nat} {d : Dk} {r : Dk × Int} (h : FInv F n d) (g : Good d r) (e : r.2 ≠ 0) : FInv F n r.1 ∧ r.1.loose = d.loose ∧ r.1.files = d.files ∧ (r.2 = 20 → (n : Int) = F) := by
  rcases g with ⟨g, _⟩ | ⟨_, g1, g2, g3, g4, g5⟩
  · exact absurd g e
  · have h1 := h.fuse
    have h3 := h.still
    refine ⟨⟨by rw [g3]; exact h1, by rw [g3]; exact h.pos, fun hs => ?_⟩, g2, g1, fun h20 => ?_⟩
    · rw [g3]; rcases g5 hs with k | k
      · exact h3 k
      · exact k
    · have : d.fuse = 0 := by
        rcases g4 h20 with k | k
        · exact h3 k
        · exact k
      omega
theorem FInv.le {F : Int} {n : Nat} {d : Dk} (h : FInv F n d) : (n : Int) ≤ F := by have := h.fuse; have := h.pos; omega
theorem read_20 {d : Dk} {n : BA} {i j : Int} (h : (d.read n i j).2 = 20) : d.still = true := by
  unfold Dk.read at h
  by_cases h1 : d.live [n] = 0
  · rw [if_neg (by simp [h1])] at h
    split at h
    · simp at h
    · split at h <;> simp at h
  · rw [if_pos h1] at h
    exact live_20 h
end Go.Pl
