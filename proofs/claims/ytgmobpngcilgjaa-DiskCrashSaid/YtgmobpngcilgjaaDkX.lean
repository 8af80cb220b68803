/- Disks, in plain Lean: what is behind a crash is what was behind some of the loose calls. -/
import Derived.Test.YtgmobpngcilgjaaDkR
set_option linter.unusedVariables false
namespace Go.Pl
open Go

def clS (x : St) : Cl := if x.op = 1 then .app x.name x.text else if x.op = 2 then .trunc x.name x.n else if x.op = 3 then .ren x.name x.text else .rem x.name

/-- A disk that has no fuse, with at most n files, each with a name that may be. -/
structure Dq (n : Nat) (d : Dk) : Prop where
  ok : d.Ok
  room : d.room = 131072
  fuse : d.fuse = -1
  still : d.still = false
  nm : ∀ x ∈ d.files.map (·.1), mayN x = true
  cnt : d.files.length ≤ n
  lcnt : d.loose.length ≤ n

theorem fput_len (k v : BA) : ∀ l : FS, (fput k v l).length ≤ l.length + 1
  | [] => by simp [fput]
  | (b, u) :: l => by
    unfold fput
    split
    · simp
    · have := fput_len k v l
      simp only [List.length_cons]; omega
theorem fdel_len (k : BA) : ∀ l : FS, (fdel k l).length ≤ l.length
  | [] => by simp [fdel]
  | (b, u) :: l => by
    unfold fdel
    split
    · simp
    · have := fdel_len k l
      simp only [List.length_cons]; omega
theorem fput_nm {k v : BA} {l : FS} (hk : mayN k = true) (h : ∀ x ∈ l.map (·.1), mayN x = true) : ∀ x ∈ (fput k v l).map (·.1), mayN x = true := fun x hx => by
  rcases fput_keys k v l x hx with rfl | hx
  · exact hk
  · exact h x hx
theorem fdel_nm {k : BA} {l : FS} (h : ∀ x ∈ l.map (·.1), mayN x = true) : ∀ x ∈ (fdel k l).map (·.1), mayN x = true := fun x hx => h x (fdel_sub k l x hx)
theorem live1_nm {d : Dk} {n : BA} (h : d.live [n] = 0) : mayN n = true := by
  unfold Dk.live at h
  split at h
  · omega
  · simp at h; exact h
theorem live2_nm {d : Dk} {n m : BA} (h : d.live [n, m] = 0) : mayN n = true ∧ mayN m = true := by
  unfold Dk.live at h
  split at h
  · omega
  · simp at h; exact ⟨h.1, h.2⟩
/-- What a call does, where there is no fuse: it, or nothing. -/
def Call1 (d : Dk) (c : Cl) (r : Dk × Int) : Prop :=
  (r.2 = 0 ∧ r.1.files = c.run d.files ∧ r.1.loose = d.loose ++ [c] ∧ r.1.fuse = -1 ∧ r.1.still = d.still ∧ r.1.room = d.room ∧ r.1.sure = d.sure ∧ (∀ (n : Nat), (∀ x ∈ d.files.map (·.1), mayN x = true) → (∀ x ∈ r.1.files.map (·.1), mayN x = true)) ∧ r.1.files.length ≤ d.files.length + 1) ∨ (r.2 ≠ 0 ∧ r.1 = d)
theorem call_bad {d : Dk} {c : Cl} {e : Int} (h : e ≠ 0) : Call1 d c (d, e) := .inr ⟨h, rfl⟩
theorem call_doC {d : Dk} {c : Cl} (hf : d.fuse = -1) (hn : (∀ x ∈ d.files.map (·.1), mayN x = true) → (∀ x ∈ (c.run d.files).map (·.1), mayN x = true)) (hc : (c.run d.files).length ≤ d.files.length + 1) : Call1 d c (d.doC c) := by
  unfold Dk.doC
  rw [if_neg (by omega)]
  exact .inl ⟨rfl, rfl, rfl, by show (if (-1 : Int) > d.fuse - 1 then -1 else d.fuse - 1) = -1; rw [hf]; decide, rfl, rfl, rfl, fun _ => hn, hc⟩
theorem call_one {d : Dk} {x : St} (hf : d.fuse = -1) : Call1 d (clS x) (callD d x) := by
  unfold callD clS
  by_cases h1 : x.op = 1
  · rw [if_pos h1, if_pos h1]
    unfold Dk.append
    by_cases hl : d.live [x.name] = 0
    · rw [if_neg (by simp [hl])]
      split
      · exact call_bad (by decide)
      · exact call_doC hf (fun h => fput_nm (live1_nm hl) h) (fput_len _ _ _)
    · rw [if_pos hl]; exact call_bad hl
  · rw [if_neg h1, if_neg h1]
    by_cases h2 : x.op = 2
    · rw [if_pos h2, if_pos h2]
      unfold Dk.truncate
      by_cases hl : d.live [x.name] = 0
      · rw [if_neg (by simp [hl])]
        split
        · exact call_bad (by decide)
        · split
          · exact call_bad (by decide)
          · split
            · exact call_bad (by decide)
            · exact call_doC hf (fun h => fput_nm (live1_nm hl) h) (fput_len _ _ _)
      · rw [if_pos hl]; exact call_bad hl
    · rw [if_neg h2, if_neg h2]
      by_cases h3 : x.op = 3
      · rw [if_pos h3, if_pos h3]
        unfold Dk.rename
        by_cases hl : d.live [x.name, x.text] = 0
        · rw [if_neg (by simp [hl])]
          split
          · exact call_bad (by decide)
          · split
            · exact call_bad (by decide)
            · refine call_doC hf (fun h => fdel_nm (fput_nm (live2_nm hl).2 h)) ?_
              have h1 := fdel_len x.name (fput x.text (ftext x.name d.files) d.files)
              have h2 := fput_len x.text (ftext x.name d.files) d.files
              show (fdel x.name (fput x.text (ftext x.name d.files) d.files)).length ≤ _
              omega
        · rw [if_pos hl]; exact call_bad hl
      · rw [if_neg h3, if_neg h3]
        unfold Dk.remove
        by_cases hl : d.live [x.name] = 0
        · rw [if_neg (by simp [hl])]
          split
          · exact call_bad (by decide)
          · refine call_doC hf (fun h => fdel_nm h) ?_
            have h1 := fdel_len x.name d.files
            show (fdel x.name d.files).length ≤ _
            omega
        · rw [if_pos hl]; exact call_bad hl
theorem Dq.mono {n m : Nat} {d : Dk} (h : Dq n d) (hm : n ≤ m) : Dq m d := { h with cnt := Nat.le_trans h.cnt hm, lcnt := Nat.le_trans h.lcnt hm }
theorem Dq.call {n : Nat} {d : Dk} (h : Dq n d) {x : St} (ht : x.text.size ≤ 549755813888) : Dq (n + 1) (callD d x).1 := by
  have ho := ok_call (x := x) h.ok ht
  rcases call_one (x := x) h.fuse with ⟨h0, hf, hl, hu, hs, hr, _, hn, hc⟩ | ⟨_, he⟩
  · refine ⟨ho, hr.trans h.room, hu, hs.trans h.still, hn 0 h.nm, ?_, ?_⟩
    · have := h.cnt; omega
    · rw [hl]; have := h.lcnt; simp; omega
  · rw [he]; exact h.mono (by omega)
theorem sync_live {d : Dk} (hs : d.still = false) : d.live [] = 0 := by unfold Dk.live; rw [hs]; simp
theorem Dq.sync {n : Nat} {d : Dk} (h : Dq n d) : d.sync.2 = 0 ∧ Dq n d.sync.1 ∧ d.sync.1.loose = [] ∧ d.sync.1.sure = d.sync.1.files := by
  have ho := h.ok.sync
  have e : d.sync = (({ d with fuse := if (-1 : Int) > d.fuse - 1 then -1 else d.fuse - 1 } : Dk).settle, 0) := by
    unfold Dk.sync
    rw [if_neg (by simp [sync_live h.still]), if_neg (by have := h.fuse; omega)]
  rw [e] at ho ⊢
  exact ⟨rfl, ⟨ho, h.room, by show (if (-1 : Int) > d.fuse - 1 then -1 else d.fuse - 1) = -1; rw [h.fuse]; decide, h.still, h.nm, h.cnt, Nat.zero_le _⟩, rfl, rfl⟩
theorem Dq.new : Dq 0 (newD 131072) := ⟨.new (by decide) (by decide), rfl, rfl, rfl, by simp [newD], by simp [newD], by simp [newD]⟩

/-! ### What was done -/
def runS (D : Dk) (l : List St) : Dk := l.foldl (fun d s => (callD d s).1) D
def allS : Dk → List St → Prop
  | _, [] => True
  | D, s :: l => (callD D s).2 = 0 ∧ allS (callD D s).1 l
theorem runS_snoc (D : Dk) (l : List St) (s : St) : runS D (l ++ [s]) = (callD (runS D l) s).1 := by simp [runS]
theorem allS_snoc : ∀ {D : Dk} {l : List St} {s : St}, allS D l → (callD (runS D l) s).2 = 0 → allS D (l ++ [s])
  | _, [], _, _, h => ⟨h, trivial⟩
  | _, _ :: _, _, h, k => ⟨h.1, allS_snoc h.2 k⟩
theorem allS_at : ∀ {D : Dk} {l : List St} {j : Nat} {s : St}, allS D l → l[j]? = some s → (callD (runS D (l.take j)) s).2 = 0
  | _, [], j, _, _, h => by simp at h
  | _, x :: l, 0, s, h, e => by simp at e; subst e; exact h.1
  | _, x :: l, j + 1, s, h, e => allS_at (l := l) h.2 (by simpa using e)
theorem runS_state : ∀ {l : List St} {D : Dk} {n : Nat}, Dq n D → allS D l → (∀ x ∈ l, x.text.size ≤ 549755813888) → Dq (n + l.length) (runS D l) ∧ (runS D l).loose = D.loose ++ l.map clS ∧ (runS D l).sure = D.sure ∧ (runS D l).files = play D.files (l.map clS)
  | [], D, n, h, _, _ => ⟨h, by simp [runS], rfl, rfl⟩
  | x :: l, D, n, h, ha, ht => by
    have h1 := h.call (x := x) (ht x (List.mem_cons_self ..))
    have h2 := call_one (x := x) h.fuse
    have ih := runS_state h1 ha.2 (fun y hy => ht y (List.mem_cons_of_mem _ hy))
    rcases h2 with ⟨_, hf, hl, _, _, _, hsu, _, _⟩ | ⟨h0, _⟩
    · refine ⟨?_, ?_, ?_, ?_⟩
      · have := ih.1
        rw [show n + (x :: l).length = n + 1 + l.length by simp; omega]; exact this
      · show (runS (callD D x).1 l).loose = _
        rw [ih.2.1, hl]; simp
      · exact ih.2.2.1.trans hsu
      · show (runS (callD D x).1 l).files = _
        rw [ih.2.2.2, hf]; rfl
    · exact absurd ha.1 h0
theorem runS_take {l : List St} {D : Dk} {n k : Nat} (h : Dq n D) (ha : allS D l) (ht : ∀ x ∈ l, x.text.size ≤ 549755813888) : allS D (l.take k) := by
  induction l generalizing D n k with
  | nil => simp [allS]
  | cons x l ih =>
    cases k with
    | zero => trivial
    | succ k => exact ⟨ha.1, ih (h.call (ht x (List.mem_cons_self ..))) ha.2 (fun y hy => ht y (List.mem_cons_of_mem _ hy))⟩
/-- An Append of a piece, where the whole was done. -/
def cutS (x : St) (torn : Int) : St := { x with text := x.text.extract 0 (if (x.text.size : Int) < torn then (x.text.size : Int) else torn).toNat }
theorem cut_call {n : Nat} {d : Dk} (h : Dq n d) {x : St} (ho : x.op = 1) (h0 : (callD d x).2 = 0) (torn : Int) : (callD d (cutS x torn)).2 = 0 := by
  have hz : (x.text.extract 0 (if (x.text.size : Int) < torn then (x.text.size : Int) else torn).toNat).size ≤ x.text.size := by rw [ByteArray.size_extract]; omega
  have ho' : (cutS x torn).op = 1 := ho
  unfold callD at h0 ⊢
  rw [if_pos ho] at h0
  rw [if_pos ho']
  unfold Dk.append at h0 ⊢
  by_cases hl : d.live [x.name] = 0
  · have hl' : d.live [(cutS x torn).name] = 0 := hl
    rw [if_neg (by simp [hl])] at h0
    rw [if_neg (by simp [hl'])]
    split at h0
    · simp at h0
    · rename_i hc
      rw [if_neg]
      · unfold Dk.doC
        rw [if_neg (by have := h.fuse; omega)]
      · intro hc'
        apply hc
        simp only [Bool.and_eq_true, decide_eq_true_eq, Bool.not_eq_true', beq_eq_false_iff_ne] at hc' ⊢
        have hz' : (cutS x torn).text.size ≤ x.text.size := hz
        have hc2 : d.room < (fused d.files : Int) + ((cutS x torn).text.size : Int) := hc'.2
        refine ⟨fun e => ?_, show d.room < (fused d.files : Int) + (x.text.size : Int) by omega⟩
        have h1 : x.text.size = 0 := by
          have := congrArg List.length e
          rw [ByteArray.toList_eq] at this
          simpa using this
        apply hc'.1
        apply List.eq_nil_of_length_eq_zero
        rw [ByteArray.toList_eq]
        generalize (cutS x torn).text = tt at hz'
        rw [Array.length_toList]
        show tt.size = 0
        omega
  · rw [if_pos hl] at h0; exact absurd h0 hl
/-- A crash, and the calls done again. -/
theorem torn_whole {D : Dk} {l : List St} {n k : Nat} (h : Dq n D) (hL : D.loose = []) (hS : D.sure = D.files) (ha : allS D l) (ht : ∀ x ∈ l, x.text.size ≤ 549755813888) {torn : Int}
    (hk : k = l.length ∨ ∃ x, l[k]? = some x ∧ (x.op ≠ 1 ∨ torn < 1)) : (runS D l).torn k torn = (runS D (l.take k)).files := by
  have h1 := runS_state h ha ht
  have h2 := runS_state h (runS_take (k := k) h ha ht) (fun x hx => ht x (List.mem_of_mem_take hx))
  unfold Dk.torn
  rw [h1.2.1, h1.2.2.1, hL, hS, h2.2.2.2, List.nil_append, List.map_take]
  have : ((l.map clS)[k]?.bind (·.piece torn)) = none := by
    rcases hk with rfl | ⟨x, hx, hc⟩
    · simp
    · rw [List.getElem?_map, hx]
      simp only [Option.map_some, Option.bind_some]
      unfold clS
      rcases hc with hc | hc
      · rw [if_neg hc]
        split
        · rfl
        · split <;> rfl
      · split
        · unfold Cl.piece; dsimp only; rw [if_neg (by omega)]
        · split
          · rfl
          · split <;> rfl
  rw [this]; rfl
theorem torn_piece {D : Dk} {l : List St} {n k : Nat} (h : Dq n D) (hL : D.loose = []) (hS : D.sure = D.files) (ha : allS D l) (ht : ∀ x ∈ l, x.text.size ≤ 549755813888) {torn : Int} {x : St} (hx : l[k]? = some x) (ho : x.op = 1) (hto : 1 ≤ torn) :
    (runS D l).torn k torn = (callD (runS D (l.take k)) (cutS x torn)).1.files := by
  have h1 := runS_state h ha ht
  have h2 := runS_state h (runS_take (k := k) h ha ht) (fun x hx => ht x (List.mem_of_mem_take hx))
  have h3 := cut_call h2.1 ho (allS_at ha hx) torn
  rcases call_one (x := cutS x torn) h2.1.fuse with ⟨_, hf, _⟩ | ⟨h0, _⟩
  · rw [hf, h2.2.2.2]
    unfold Dk.torn
    rw [h1.2.1, h1.2.2.1, hL, hS, List.nil_append, List.map_take, List.getElem?_map, hx]
    simp only [Option.map_some, Option.bind_some]
    have e1 : clS x = .app x.name x.text := by unfold clS; rw [if_pos ho]
    have e2 : clS (cutS x torn) = .app x.name (cutS x torn).text := by unfold clS; rw [if_pos (show (cutS x torn).op = 1 from ho)]; rfl
    rw [e1, e2]
    unfold Cl.piece
    dsimp only
    rw [if_pos (by omega)]
    rfl
  · exact absurd h3 h0
theorem crash_files (d : Dk) (keep torn : Int) : (d.crash keep torn).files = d.torn (d.kept keep) torn := rfl
theorem crash_none {d : Dk} (h : d.loose = []) (keep torn : Int) : (d.crash keep torn).files = d.sure := by
  show d.torn _ torn = _
  unfold Dk.torn
  rw [h]; simp [runO, play]
end Go.Pl
