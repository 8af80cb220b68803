import Derived.Test.YtadgdikijdmceaaGreatTqV
set_option linter.unusedSimpArgs false
set_option linter.unusedVariables false
namespace Go.Proofs.YtadgdikijdmceaaGreat
open Go Go.Fx Go.Pl

theorem doC_room (d : Dk) (c : Cl) : (d.doC c).1.room = d.room := by unfold Dk.doC; split <;> rfl
theorem append_room (d : Dk) (k s : BA) : (d.append k s).1.room = d.room := by
  unfold Dk.append
  split
  · rfl
  · split
    · rfl
    · exact doC_room _ _
theorem remove_room (d : Dk) (k : BA) : (d.remove k).1.room = d.room := by
  unfold Dk.remove
  split
  · rfl
  · split
    · rfl
    · exact doC_room _ _
theorem truncate_room (d : Dk) (k : BA) (n : Int) : (d.truncate k n).1.room = d.room := by
  unfold Dk.truncate
  split
  · rfl
  · split
    · rfl
    · split
      · rfl
      · split
        · rfl
        · exact doC_room _ _
theorem sync_room (d : Dk) : d.sync.1.room = d.room := by
  unfold Dk.sync Dk.settle
  split
  · rfl
  · split <;> rfl
theorem cutT_room (d : Dk) (x : Sg) : (cutT d x).1.room = d.room := by
  unfold cutT
  split
  · exact remove_room _ _
  · exact truncate_room _ _ _
theorem layT_room (name : BA) (seg : Nat) : ∀ (n : Nat) (l u : List Sg) (rs : List BA) (d : Dk), (layT name seg n l u rs d).1.room = d.room
  | 0, l, u, rs, d => rfl
  | n + 1, l, u, rs, d => by
    rw [layT]
    split
    · rfl
    · split
      · exact layT_room name seg n _ _ _ _
      · rename_i x _
        split
        · exact layT_room name seg n _ _ _ _
        · split
          · exact append_room _ _ _
          · rw [layT_room name seg n]; exact append_room _ _ _
theorem backL_room : ∀ (l : List Sg) (f : Int) (d : Dk), (backL l f d).1.room = d.room
  | [], f, d => rfl
  | x :: l, f, d => by
    rw [backL]
    split
    · exact cutT_room _ _
    · rw [backL_room l]; exact cutT_room _ _
theorem backT_room (u : List Sg) (f : Int) (d : Dk) : (backT u f d).1.room = d.room := by
  unfold backT
  split
  · exact backL_room _ _ _
  · split
    · split
      · rw [sync_room]; exact backL_room _ _ _
      · rw [sync_room]; exact backL_room _ _ _
    · exact backL_room _ _ _
theorem appendT_room (name : BA) (seg : Nat) (l : List Sg) (f : Int) (rs : List BA) (d : Dk) : (appendT name seg l f rs d).d.room = d.room := by
  unfold appendT
  split
  · rfl
  · split
    · rfl
    · split
      · rfl
      · split
        · rw [backT_room]; exact layT_room _ _ _ _ _ _ _
        · split
          · exact layT_room _ _ _ _ _ _ _
          · split
            · rw [sync_room]; exact layT_room _ _ _ _ _ _ _
            · rw [sync_room]; exact layT_room _ _ _ _ _ _ _
theorem dropL_room (off : Nat) (f : Int) : ∀ (l : List Sg) (d : Dk) (s : Bool), (dropL off f l d s).2.2.1.room = d.room
  | [], d, s => rfl
  | [x], d, s => rfl
  | x :: y :: l, d, s => by
    rw [dropL]
    split
    · split
      · exact remove_room _ _
      · rw [dropL_room off f (y :: l)]; exact remove_room _ _
    · rfl
theorem dropT_room (off : Nat) (l : List Sg) (f : Int) (d : Dk) : (dropT off l f d).2.2.1.room = d.room := by
  unfold dropT
  split
  · rfl
  · split
    · rfl
    · have h := dropL_room off f l d false
      unfold dropE
      generalize dropL off f l d false = r at h
      obtain ⟨a, b, c, e, s⟩ := r
      dsimp only at h ⊢
      split
      · exact h
      · split
        · dsimp only; rw [sync_room]; exact h
        · exact h
theorem sync_loose (d : Dk) : d.sync.1.loose.length ≤ d.loose.length := by
  unfold Dk.sync Dk.settle
  split
  · exact Nat.le_refl _
  · split
    · exact Nat.le_refl _
    · exact Nat.zero_le _
theorem backT_loose (u : List Sg) (f : Int) (d : Dk) (h : d.Ok) : (backT u f d).1.loose.length ≤ d.loose.length + u.length := by
  have h1 := (backL_ok u.reverse f d h).2
  rw [List.length_reverse] at h1
  have h2 := sync_loose (backL u.reverse f d).1
  unfold backT
  split
  · exact h1
  · split
    · split
      · exact Nat.le_trans h2 h1
      · exact Nat.le_trans h2 h1
    · exact h1
theorem appendT_loose (name : BA) (seg : Nat) (l : List Sg) (f : Int) (rs : List BA) (d : Dk) (h : d.Ok) (hz : lenT rs ≤ 549755813888) : (appendT name seg l f rs d).d.loose.length ≤ d.loose.length + 4 * rs.length + 2 := by
  obtain ⟨h1, h2, h3⟩ := layT_ok name seg (2 * rs.length + 1) l [] rs d h hz
  rw [List.length_nil] at h3
  have h4 := backT_loose (layT name seg (2 * rs.length + 1) l [] rs d).2.2.2 f _ h1
  have h5 := sync_loose (layT name seg (2 * rs.length + 1) l [] rs d).1
  unfold appendT
  split
  · dsimp only; omega
  · split
    · dsimp only; omega
    · split
      · dsimp only; omega
      · split
        · dsimp only; omega
        · split
          · dsimp only; omega
          · split
            · dsimp only; omega
            · dsimp only; omega
theorem dropL_loose (off : Nat) (f : Int) : ∀ (l : List Sg) (d : Dk) (s : Bool), (dropL off f l d s).2.2.1.loose.length ≤ d.loose.length + l.length
  | [], d, s => Nat.le_refl _
  | [x], d, s => Nat.le_add_right _ _
  | x :: y :: l, d, s => by
    have h1 := remove_loose d x.file
    rw [dropL]
    split
    · split
      · rw [List.length_cons]; dsimp only; omega
      · have := dropL_loose off f (y :: l) (d.remove x.file).1 true
        rw [List.length_cons]; omega
    · exact Nat.le_add_right _ _
theorem dropT_loose (off : Nat) (l : List Sg) (f : Int) (d : Dk) : (dropT off l f d).2.2.1.loose.length ≤ d.loose.length + l.length := by
  unfold dropT
  split
  · exact Nat.le_add_right _ _
  · split
    · exact Nat.le_add_right _ _
    · have h := dropL_loose off f l d false
      unfold dropE
      generalize dropL off f l d false = r at h
      obtain ⟨a, b, c, e, s⟩ := r
      dsimp only at h ⊢
      split
      · exact h
      · split
        · exact Nat.le_trans (sync_loose c) h
        · exact h
end Go.Proofs.YtadgdikijdmceaaGreat
