import Derived.Test.YtadgdikijdmceaaGreatTqV
set_option linter.unusedSimpArgs false
set_option linter.unusedVariables false
namespace Go.Proofs.YtadgdikijdmceaaGreat
open Go Go.Fx Go.Pl

theorem getT_bad {d : Dk} {file : BA} {a b : List BA} {r u : BA} {i : Nat} (hs : d.still = false) (hm : mayN file = true) (hg : fget file d.files = some u) (hr : r.size ≤ 4194304) (hd : Diff (framesOf (a ++ r :: b)) u i) (h1 : lenT a ≤ i) (h2 : i < lenT a + (12 + r.size)) : getT d file (lenT a) r = (⟨#[]⟩, 71) := by
  have hz : lenT a + (12 + r.size) ≤ u.size := by
    rw [← hd.size.1, framesOf_size, lenT_cat]
    have : lenT (r :: b) = 12 + r.size + lenT b := by simp [lenT]
    omega
  have hin := hd.inn h1 h2
  rw [framesOf_mid] at hin
  have hn := next_diff (s := r) (t := ⟨#[]⟩) hr (by rw [ba_nil]; exact hin) (by omega)
  have hsz : (u.extract (lenT a) (lenT a + (12 + r.size))).size ≠ 0 := by rw [ByteArray.size_extract]; omega
  unfold getT
  rw [read_at hs hm hg hz]
  dsimp only
  rw [if_neg (fun h => h rfl), scan_71 hsz hn]
  rfl
theorem getT_out {d : Dk} {file : BA} {a b : List BA} {r u : BA} {i : Nat} (hs : d.still = false) (hm : mayN file = true) (hg : fget file d.files = some u) (hr : r.size ≤ 4194304) (hd : Diff (framesOf (a ++ r :: b)) u i) (ho : i < lenT a ∨ lenT a + (12 + r.size) ≤ i) : getT d file (lenT a) r = (r, 0) := by
  have hz : lenT a + (12 + r.size) ≤ u.size := by
    rw [← hd.size.1, framesOf_size, lenT_cat]
    have : lenT (r :: b) = 12 + r.size + lenT b := by simp [lenT]
    omega
  have he := hd.out (n := lenT a) (m := lenT a + (12 + r.size)) ho
  rw [framesOf_mid] at he
  unfold getT
  rw [read_at hs hm hg hz, ← he]
  dsimp only
  rw [if_neg (fun h => h rfl), scanOf_one r hr]
  show (if (0 : Int) = 0 ∧ 12 + r.size = 12 + r.size ∧ sumS r = sumS r then (r, (0 : Int)) else (⟨#[]⟩, 71)) = _
  rw [if_pos ⟨rfl, rfl, rfl⟩]
theorem readT_spoilt {d : Dk} {x : Sg} {u : BA} {i : Nat} (last : Bool) (hd : d.Ok) (hs : d.still = false) (hm : mayN x.file = true) (hg : fget x.file d.files = some u) (ha : allOk x.recs = true) (hf : Diff (framesOf x.recs) u i) : (readT d ⟨x.file, x.first, []⟩ last).2.2 = 71 := by
  have h71 := scan_diff x.recs ha hf
  unfold readT
  dsimp only
  rw [read_of hd hs hm hg]
  dsimp only
  rw [if_neg (fun h => h rfl), if_neg (fun h => by rw [h71] at h; exact absurd h.1 (by decide)), if_pos (by rw [h71]; decide)]
end Go.Proofs.YtadgdikijdmceaaGreat
