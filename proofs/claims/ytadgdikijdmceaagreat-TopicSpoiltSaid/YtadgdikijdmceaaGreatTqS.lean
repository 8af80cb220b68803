import Derived.Test.YtadgdikijdmceaaGreatG16
set_option linter.unusedSimpArgs false
set_option linter.unusedVariables false
namespace Go.Proofs.YtadgdikijdmceaaGreat
open Go Go.Fx Go.Pl

structure CInv (C : FS → Prop) (d : Dk) : Prop where
  ok : d.Ok
  cr : ∀ k t, C (d.torn k t)
theorem CInv.mono {C C' : FS → Prop} {d : Dk} (h : CInv C d) (k : ∀ F, C F → C' F) : CInv C' d := ⟨h.ok, fun i t => k _ (h.cr i t)⟩
theorem CInv.still {C : FS → Prop} {d : Dk} (h : CInv C d) : CInv C { d with still := true } := ⟨{ h.ok with }, h.cr⟩
theorem CInv.firm {C : FS → Prop} {d : Dk} {F : FS} (h : Firm d F) (hC : C d.files) : CInv C d := ⟨h.ok, fun k t => by rw [torn_none h.loose, h.sure]; exact hC⟩
theorem CInv.crash {C : FS → Prop} {d : Dk} (h : CInv C d) (keep torn : Int) : C (d.crash keep torn).files := h.cr _ _
theorem CInv.doC {C : FS → Prop} {d : Dk} {c : Cl} (h : CInv C d) (hok : (d.doC c).1.Ok) (hp : ∀ t, C (runO (c.piece t) d.files)) (hr : C (c.run d.files)) : CInv C (d.doC c).1 := by
  refine ⟨hok, ?_⟩
  unfold Dk.doC
  split
  · exact h.cr
  · intro k t
    show C (runO ((d.loose ++ [c])[k]?.bind (·.piece t)) (play d.sure ((d.loose ++ [c]).take k)))
    rcases Nat.lt_trichotomy k d.loose.length with hk | hk | hk
    · rw [List.getElem?_append_left hk, List.take_append_of_le_length (Nat.le_of_lt hk)]
      exact h.cr k t
    · subst hk
      rw [List.getElem?_append_right (Nat.le_refl _), Nat.sub_self, List.take_append_of_le_length (Nat.le_refl _), List.take_length, h.ok.play]
      exact hp t
    · rw [List.getElem?_eq_none (by simp; omega), List.take_of_length_le (by simp; omega), play_snoc, h.ok.play]
      exact hr
theorem sync_20 {d : Dk} (hs : d.still = false) : (d.fuse = 0 ∧ d.sync = ({ d with still := true }, 20)) ∨ (d.fuse ≠ 0 ∧ d.sync.2 = 0 ∧ d.sync.1.files = d.files ∧ d.sync.1.sure = d.files ∧ d.sync.1.loose = [] ∧ d.sync.1.still = false ∧ d.sync.1.room = d.room ∧ (d.fuse = -1 → d.sync.1.fuse = -1)) := by
  unfold Dk.sync Dk.settle
  rw [live0, hs, if_neg (by decide)]
  by_cases hf : d.fuse = 0
  · rw [if_pos hf]; exact .inl ⟨hf, rfl⟩
  · rw [if_neg hf]
    refine .inr ⟨hf, rfl, rfl, rfl, rfl, rfl, rfl, fun h => ?_⟩
    dsimp only
    rw [h]; decide
theorem doC_20 (d : Dk) (c : Cl) : (d.fuse = 0 ∧ d.doC c = ({ d with still := true }, 20)) ∨ (d.fuse ≠ 0 ∧ (d.doC c).2 = 0 ∧ (d.doC c).1.files = c.run d.files ∧ (d.doC c).1.still = d.still ∧ (d.doC c).1.room = d.room ∧ (d.doC c).1.sure = d.sure ∧ (d.doC c).1.loose = d.loose ++ [c] ∧ (d.fuse = -1 → (d.doC c).1.fuse = -1)) := by
  unfold Dk.doC
  by_cases hf : d.fuse = 0
  · rw [if_pos hf]; exact .inl ⟨hf, rfl⟩
  · rw [if_neg hf]
    refine .inr ⟨hf, rfl, rfl, rfl, rfl, rfl, rfl, fun h => ?_⟩
    dsimp only
    rw [h]; decide

structure Tw (name : BA) (seg f : Nat) (l : List Sg) : Prop where
  mod : f % seg = 0
  ok : allOk (allR l) = true
  sq : (l = [] ∧ f = 0) ∨ ∃ l0 x, l = l0 ++ [x] ∧ Sq name seg f l0 x ∧ x.recs ≠ []
theorem allOk_mem {l : List Sg} (h : allOk (allR l) = true) {x : Sg} (hx : x ∈ l) : allOk x.recs = true := by
  unfold allOk at h ⊢
  rw [List.all_eq_true] at h ⊢
  exact fun r hr => h r (List.mem_flatMap.2 ⟨x, hx, hr⟩)
theorem Tw.nm {name : BA} {seg f : Nat} {l : List Sg} (h : Tw name seg f l) (hs : 1 ≤ seg) : Nm name l := by
  rcases h.sq with ⟨rfl, _⟩ | ⟨l0, x, rfl, hq, _⟩
  · exact ⟨fun x hx => by simp at hx, fun x hx => by simp at hx, List.Pairwise.nil⟩
  · exact hq.nm hs
theorem Fl.recs {name : BA} {seg : Nat} : ∀ {l : List Sg} {f : Nat}, Fl name seg f l → (allR l).length = seg * l.length
  | [], _, _ => rfl
  | x :: l, f, ⟨_, _, h3, h4⟩ => by rw [allR_cons, List.length_append, h3, Fl.recs h4, List.length_cons, Nat.mul_add, Nat.mul_one, Nat.add_comm]
theorem Fl.cn {name : BA} {seg : Nat} : ∀ {l : List Sg} {f : Nat} {m : List Sg}, Fl name seg f l → Cn name (f + seg * l.length) m → Cn name f (l ++ m)
  | [], _, _, _, h => h
  | x :: l, f, m, ⟨h1, h2, h3, h4⟩, h => ⟨h1, h2, by
    rw [h3]
    refine Fl.cn h4 ?_
    rw [List.length_cons, Nat.mul_add, Nat.mul_one] at h
    rw [show f + seg + seg * l.length = f + (seg * l.length + seg) by omega]
    exact h⟩
theorem Tw.cn {name : BA} {seg f : Nat} {l : List Sg} (h : Tw name seg f l) : Cn name f l := by
  rcases h.sq with ⟨rfl, _⟩ | ⟨l0, x, rfl, hq, _⟩
  · trivial
  · refine hq.fl.cn ⟨?_, hq.first, trivial⟩
    rw [hq.file, hq.first]
theorem Tw.next {name : BA} {seg f : Nat} {l : List Sg} (h : Tw name seg f l) : nextS l = f + (allR l).length := by
  rcases h.sq with ⟨rfl, rfl⟩ | ⟨l0, x, rfl, hq, _⟩
  · rfl
  · unfold nextS
    rw [List.getLast?_concat, allR_app, List.length_append, hq.fl.recs]
    show x.first + x.recs.length = _
    have : allR [x] = x.recs := by simp [allR]
    rw [this, hq.first]; omega
theorem Tw.first {name : BA} {seg f : Nat} {l : List Sg} (h : Tw name seg f l) : firstS l = f := by
  rcases h.sq with ⟨rfl, rfl⟩ | ⟨l0, x, rfl, hq, _⟩
  · rfl
  · cases l0 with
    | nil => show x.first = f; rw [hq.first]; simp
    | cons y l0 => exact hq.fl.2.1
theorem Tw.tail {name : BA} {seg f : Nat} {x y : Sg} {l : List Sg} (h : Tw name seg f (x :: y :: l)) : Tw name seg (f + seg) (y :: l) ∧ x.recs.length = seg ∧ x.file = fileT name f ∧ y.first = f + seg := by
  rcases h.sq with ⟨e, _⟩ | ⟨l0, z, e, hq, hz⟩
  · cases e
  · cases l0 with
    | nil => simp at e
    | cons w l0 =>
      obtain ⟨rfl, e2⟩ : x = w ∧ y :: l = l0 ++ [z] := by simpa using e
      obtain ⟨h1, h2, h3, h4⟩ := hq.fl
      have hf := hq.first
      rw [List.length_cons, Nat.mul_add, Nat.mul_one] at hf
      have hq' : Sq name seg (f + seg) l0 z := ⟨h4, by rw [hf]; omega, hq.file, hq.le, hq.lt⟩
      have hok := h.ok
      rw [allR_cons] at hok
      rw [show allOk (x.recs ++ allR (y :: l)) = (allOk x.recs && allOk (allR (y :: l))) from allOk_app, Bool.and_eq_true] at hok
      have ht : Tw name seg (f + seg) (y :: l) := ⟨by rw [Nat.add_mod_right]; exact h.mod, hok.2, .inr ⟨l0, z, e2, hq', hz⟩⟩
      refine ⟨ht, h3, h1, ?_⟩
      have := ht.first
      exact this
theorem Tw.drop {name : BA} {seg f : Nat} {l : List Sg} (h : Tw name seg f l) : ∀ (k : Nat), k < l.length → Tw name seg (f + seg * k) (l.drop k) ∧ (allR l).drop (seg * k) = allR (l.drop k) := by
  intro k
  induction k generalizing l f with
  | zero => intro _; exact ⟨by simpa using h, by simp⟩
  | succ k ih =>
    intro hk
    match l, h, hk with
    | [], _, hk => simp at hk
    | [x], _, hk => simp at hk
    | x :: y :: l, h, hk =>
      obtain ⟨h1, h2, h3, h4⟩ := h.tail
      obtain ⟨a, b⟩ := ih h1 (by simpa using hk)
      rw [Nat.mul_add, Nat.mul_one]
      refine ⟨by rw [show f + (seg * k + seg) = f + seg + seg * k by omega]; exact a, ?_⟩
      rw [List.drop_succ_cons, ← b, allR_cons, Nat.add_comm (seg * k) seg, ← List.drop_drop]
      congr 1
      rw [← h2, List.drop_left]
def dropK (off : Nat) : List Sg → Nat
  | x :: y :: l => if y.first ≤ off then dropK off (y :: l) + 1 else 0
  | _ => 0
theorem dropK_lt (off : Nat) : ∀ (l : List Sg), l ≠ [] → dropK off l < l.length
  | [], h => absurd rfl h
  | [x], _ => by simp [dropK]
  | x :: y :: l, _ => by
    rw [dropK]
    have := dropK_lt off (y :: l) (by simp)
    split
    · rw [List.length_cons]; omega
    · simp
theorem fsS_cons (x : Sg) (l : List Sg) : fsS (x :: l) = (x.file, framesOf x.recs) :: fsS l := rfl
def DropC (l : List Sg) (k : Nat) (F : FS) : Prop := ∃ j, j ≤ k ∧ FEq F (fsS (l.drop j))
theorem dropL_gen {name : BA} {seg : Nat} (hm : mayN name = true) (hz : name.size ≤ 32) (hs : 1 ≤ seg) (off : Nat) : ∀ (l : List Sg) (f : Nat) (d : Dk) (s : Bool) (C : FS → Prop), Tw name seg f l → FEq d.files (fsS l) → d.still = false → CInv C d → (∀ j, j ≤ dropK off l → ∀ F, FEq F (fsS (l.drop j)) → C F) →
    (∃ d', dropL off 0 l d s = (l.drop (dropK off l), 0, d', 0, s || decide (dropK off l ≠ 0)) ∧ FEq d'.files (fsS (l.drop (dropK off l))) ∧ d'.still = false ∧ CInv C d' ∧ d'.room = d.room ∧ (d.fuse = -1 → d'.fuse = -1) ∧ (dropK off l = 0 → d' = d)) ∨
    (∃ l' d' s', dropL off 0 l d s = (l', 20, d', 20, s') ∧ CInv C d' ∧ d.fuse ≠ -1)
  | [], f, d, s, C, hw, hF, hst, hc, hC => .inl ⟨d, by simp [dropL, dropK], hF, hst, hc, rfl, fun h => h, fun _ => rfl⟩
  | [x], f, d, s, C, hw, hF, hst, hc, hC => .inl ⟨d, by simp [dropL, dropK], hF, hst, hc, rfl, fun h => h, fun _ => rfl⟩
  | x :: y :: l, f, d, s, C, hw, hF, hst, hc, hC => by
    rw [dropL]
    by_cases h1 : y.first ≤ off
    · obtain ⟨hw', hxl, hxf, hyf⟩ := hw.tail
      have hk : dropK off (x :: y :: l) = dropK off (y :: l) + 1 := by rw [dropK, if_pos h1]
      rw [hk] at hC ⊢
      have hnm := hw.nm hs
      have hnd := hnm.nodup
      have hgx : fget x.file d.files = some (framesOf x.recs) := by rw [hF]; exact fget_fsS hnd (List.mem_cons_self ..)
      have hmx : mayN x.file = true := by rw [hxf]; exact mayN_fileT name _ hm hz
      have hrem : d.remove x.file = d.doC (.rem x.file) := by
        have hh : d.has x.file = true := by unfold Dk.has; rw [hgx]; rfl
        unfold Dk.remove
        rw [live1 d hmx, hst, hh]
        simp
      have hok : (d.doC (.rem x.file)).1.Ok := by rw [← hrem]; exact hc.ok.remove
      have hrun : FEq ((Cl.rem x.file).run d.files) (fsS (y :: l)) := by
        refine (hF.del x.file hc.ok.nd (by rw [fsS_keys]; exact hnd)).trans ?_
        rw [fsS_cons x, fdel, if_pos rfl]
        exact .refl _
      have hc1 : CInv C (d.doC (.rem x.file)).1 := hc.doC hok (fun t => hC 0 (Nat.zero_le _) _ hF) (hC 1 (by omega) _ hrun)
      rw [if_pos h1, hrem]
      rcases doC_20 d (.rem x.file) with ⟨hf, he⟩ | ⟨hf, he, hfi, hst', hro, _, _, hfu⟩
      · right
        rw [he, if_pos (show (20 : Int) ≠ 0 by decide)]
        rw [he] at hc1
        exact ⟨_, _, _, rfl, hc1, by omega⟩
      · rw [he, if_neg (fun h => h rfl)]
        rw [hst] at hst'
        generalize (d.doC (.rem x.file)).1 = D at hfi hst' hro hfu hc1
        rw [← hfi] at hrun
        rcases dropL_gen hm hz hs off (y :: l) (f + seg) D true C hw' hrun hst' hc1 (fun j hj F hF => hC (j + 1) (by omega) F (by rw [List.drop_succ_cons]; exact hF)) with ⟨d', q1, q2, q3, q4, q5, q6, q7⟩ | ⟨l', d', s', q1, q2, q3⟩
        · left
          refine ⟨d', ?_, ?_, q3, q4, by rw [q5, hro], fun h => q6 (hfu h), fun h => by omega⟩
          · rw [q1, List.drop_succ_cons]; simp
          · rw [List.drop_succ_cons]; exact q2
        · right
          exact ⟨l', d', s', q1, q2, fun h => q3 (hfu h)⟩
    · left
      rw [if_neg h1]
      have hk : dropK off (x :: y :: l) = 0 := by rw [dropK, if_neg h1]
      rw [hk]
      exact ⟨d, by simp, hF, hst, hc, rfl, fun h => h, fun _ => rfl⟩
theorem drop_main {name : BA} {seg f off : Nat} {l : List Sg} {d : Dk} (hm : mayN name = true) (hz : name.size ≤ 32) (hs : 1 ≤ seg) (hw : Tw name seg f l) (hd : Firm d (fsS l)) (ho : off ≤ nextS l) :
    (∃ d', dropT off l 0 d = (l.drop (dropK off l), 0, d', 0) ∧ Firm d' (fsS (l.drop (dropK off l))) ∧ d'.room = d.room ∧ (d.fuse = -1 → d'.fuse = -1)) ∨
    (∃ l' d', dropT off l 0 d = (l', 20, d', 20) ∧ CInv (DropC l (dropK off l)) d' ∧ d.fuse ≠ -1) := by
  unfold dropT
  rw [if_neg (fun h => h rfl), if_neg (by omega)]
  rcases dropL_gen hm hz hs off l f d false (DropC l (dropK off l)) hw hd.eq hd.still (.firm hd ⟨0, Nat.zero_le _, hd.eq⟩) (fun j hj F hF => ⟨j, hj, hF⟩) with ⟨d', q1, q2, q3, q4, q5, q6, q7⟩ | ⟨l', d', s', q1, q2, q3⟩
  · rw [q1]
    unfold dropE
    dsimp only
    rw [if_neg (fun h => h rfl), Bool.false_or]
    by_cases hk : dropK off l = 0
    · left
      rw [decide_eq_false (fun h => h hk), if_neg (by decide)]
      have := q7 hk
      subst this
      exact ⟨d', rfl, ⟨hd.ok, hd.still, hd.loose, q2⟩, q5, q6⟩
    · rw [decide_eq_true hk, if_pos rfl]
      rcases sync_20 q3 with ⟨hf, he⟩ | ⟨hf, he, h1, h2, h3, h4, h5, h6⟩
      · right
        rw [he]
        refine ⟨_, _, rfl, q4.still, fun h => ?_⟩
        have := q6 h
        omega
      · left
        refine ⟨d'.sync.1, by rw [he]; rfl, ⟨q4.ok.sync, h4, h3, by rw [h1]; exact q2⟩, by rw [h5, q5], fun h => h6 (q6 h)⟩
  · right
    rw [q1]
    exact ⟨l', d', rfl, q2, q3⟩
end Go.Proofs.YtadgdikijdmceaaGreat
