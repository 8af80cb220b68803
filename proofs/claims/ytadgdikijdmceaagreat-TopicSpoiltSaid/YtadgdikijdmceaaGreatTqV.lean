import Derived.Test.YtadgdikijdmceaaGreatTqU
set_option linter.unusedSimpArgs false
set_option linter.unusedVariables false
namespace Go.Proofs.YtadgdikijdmceaaGreat
open Go Go.Fx Go.Pl

structure AppOK (name : BA) (seg f : Nat) (l : List Sg) (rs : List BA) (d : Dk) (r : ApR) : Prop where
  e : r.e = 0
  n : r.n = nextS l
  f0 : r.f = 0
  tw : Tw name seg f r.l
  rc : allR r.l = allR l ++ rs
  firm : Firm r.d (fsS r.l)
  room : r.d.room = d.room
  fuse : d.fuse = -1 → r.d.fuse = -1
structure AppFull (l : List Sg) (rs : List BA) (d : Dk) (r : ApR) : Prop where
  e : r.e = 4
  n : r.n = 0
  f0 : r.f = 0
  li : r.l = l
  ne : rs ≠ []
  firm : Firm r.d (fsS l)
  room : r.d.room = d.room
  fuse : r.d.fuse = -1
theorem sync_m1' {d : Dk} (hs : d.still = false) (hf : d.fuse = -1) : d.sync.2 = 0 ∧ d.sync.1.files = d.files ∧ d.sync.1.loose = [] ∧ d.sync.1.still = false ∧ d.sync.1.room = d.room ∧ d.sync.1.fuse = -1 := by
  rw [sync_m1 hs hf]; exact ⟨rfl, rfl, rfl, hs, rfl, hf⟩
theorem append_main {name : BA} {seg f : Nat} {l : List Sg} {rs : List BA} {d : Dk} (hm : mayN name = true) (hz : name.size ≤ 32) (hs : 1 ≤ seg) (hw : Tw name seg f l) (hd : Firm d (fsS l)) (hok : allOk rs = true) (hnx : nextS l + rs.length < 281474976710656) (hlen : lenT rs ≤ 549755813888)
    (hroom : d.fuse = -1 ∨ (fused d.files : Int) + (lenT rs : Int) ≤ d.room) :
    AppOK name seg f l rs d (appendT name seg l 0 rs d) ∨ (d.fuse = -1 ∧ AppFull l rs d (appendT name seg l 0 rs d) ∧ d.room < (fused d.files : Int) + (lenT rs : Int)) ∨ ((appendT name seg l 0 rs d).e ≠ 0 ∧ (appendT name seg l 0 rs d).f ≠ 0 ∧ CInv (AppC name seg f (allR l) rs) (appendT name seg l 0 rs d).d ∧ d.fuse ≠ -1) := by
  have hlong : rs.any longR = false := by
    rw [List.any_eq_false]
    intro x hx
    unfold allOk at hok
    rw [List.all_eq_true] at hok
    have := of_decide_eq_true (hok x hx)
    unfold longR
    rw [decide_eq_true_eq]
    omega
  by_cases hr : rs = []
  · subst hr
    have e1 : appendT name seg l 0 [] d = ⟨l, 0, d, nextS l, 0⟩ := by
      unfold appendT
      rw [if_neg (fun h => h rfl), if_neg (by decide), if_pos List.length_nil]
    rw [e1]
    exact .inl ⟨rfl, rfl, rfl, hw, by rw [List.append_nil], hd, rfl, fun h => h⟩
  · have hr0 : rs.length ≠ 0 := fun e => hr (List.eq_nil_of_length_eq_zero e)
    have hA : allR l = [] → f = 0 := fun e => by
      rcases hw.sq with ⟨_, h⟩ | ⟨l0, x, rfl, _, hx⟩
      · exact h
      · rw [allR_app, allR_one] at e
        exact absurd (List.append_eq_nil_iff.1 e).2 hx
    have hok2 : allOk (allR l ++ rs) = true := by rw [show allOk (allR l ++ rs) = (allOk (allR l) && allOk rs) from allOk_app, hw.ok, hok]; rfl
    have hnr := hw.nrm hs
    have hlay : LayS name seg f (allR l) rs (fsS l) (2 * rs.length + 1) l [] rs d := by
      refine ⟨muL_le _ _ _, hw.sqm, by rw [hnr]; exact hd.eq, hd.still, ?_, ⟨0, by rw [List.take_zero, List.append_nil], rfl⟩, hnx, by rw [hnr]; exact UndoOk.nil _, fun e => absurd e hr⟩
      refine CInv.firm hd ⟨0, ?_⟩
      rw [List.take_zero, List.append_nil]
      exact torn_nrm hs hw.sqm hA (by rw [hnr]; exact hd.eq)
    have hmain := layT_main hm hz hs hw.mod hA hok2 hlen _ _ _ _ _ hlay
    generalize hlr : layT name seg (2 * rs.length + 1) l [] rs d = r at hmain
    rw [appendT_eq rfl hlong hr0 hlr]
    rcases hmain with g | g | ⟨g1, g2, g3⟩
    · rw [g.e, if_neg (by decide), if_neg (fun h => h rfl)]
      rcases sync_20 g.st with ⟨hf, he⟩ | ⟨hf, he, h1, h2, h3, h4, h5, h6⟩
      · right; right
        rw [he, if_pos (show (20 : Int) ≠ 0 by decide)]
        refine ⟨show (20 : Int) ≠ 0 by decide, show downT 0 20 ≠ 0 by decide, g.cr.still, fun h => ?_⟩
        have := g.fuse h
        omega
      · left
        rw [he, if_neg (fun h => h rfl)]
        exact ⟨rfl, rfl, rfl, g.tw, g.rc, ⟨g.cr.ok.sync, h4, h3, by rw [h1]; exact g.eq⟩, by rw [h5]; exact g.room, fun h => h6 (g.fuse h)⟩
    · have hfu : d.fuse = -1 := by
        rcases hroom with h | h
        · exact h
        · have := g.few; omega
      right; left
      rw [g.e, if_pos rfl]
      refine ⟨hfu, ?_, g.few⟩
      obtain ⟨d', q1, q2, q3, q4, q5, q6⟩ := g.un r.1 (.refl _) g.ok g.st (g.fuse hfu)
      have hb : backT r.2.2.2 0 r.1 = if 0 < r.2.2.2.length then (d'.sync.1, 0, 4) else (d', 0, 4) := by
        obtain ⟨s1, _⟩ := sync_m1' q4 q5
        unfold backT
        rw [q1]
        dsimp only
        rw [if_neg (show ¬ ((0 : Int) ≠ 0) from fun h => h rfl)]
        split
        · rw [s1, if_neg (fun h => h rfl)]
          rfl
        · rfl
      rw [hb]
      by_cases h0 : r.2.2.2 = []
      · have hrd := g.some h0
        rw [h0, if_neg (by simp)]
        rw [h0] at q1
        have hdd : d' = d := by
          have : (r.1, (0 : Int), (0 : Int)) = (d', 0, 0) := q1
          rw [hrd] at this
          exact (congrArg Prod.fst this).symm
        subst hdd
        exact ⟨rfl, rfl, rfl, rfl, hr, hd, rfl, hfu⟩
      · have hp : 0 < r.2.2.2.length := List.length_pos_iff.2 h0
        rw [if_pos hp]
        obtain ⟨s1, s2, s3, s4, s5, s6⟩ := sync_m1' q4 q5
        exact ⟨rfl, rfl, rfl, rfl, hr, ⟨q3.sync, s4, s3, by rw [s2]; exact q2⟩, by show d'.sync.1.room = _; rw [s5, q6]; exact g.room, s6⟩
    · right; right
      rw [g1, if_neg (by decide), if_pos (show (20 : Int) ≠ 0 by decide)]
      exact ⟨show (20 : Int) ≠ 0 by decide, show downT 0 20 ≠ 0 by decide, g2, g3⟩
end Go.Proofs.YtadgdikijdmceaaGreat
