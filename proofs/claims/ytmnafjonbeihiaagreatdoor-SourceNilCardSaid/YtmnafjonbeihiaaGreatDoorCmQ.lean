import Derived.Test.YtmnafjonbeihiaaGreatDoorG15
set_option linter.unusedVariables false
set_option linter.unusedSimpArgs false
namespace Go.Proofs.YtmnafjonbeihiaaGreatDoor
open Go Go.Fx Go.Pl
def nC : BA := ⟨#[99, 111, 109, 109, 105, 116, 115]⟩
theorem may_nC : mayN nC = true := by decide +kernel
structure WGoodC (d : Dk) (w : Wv) (h : List BA) : Prop where
  ok : d.Ok
  okh : allOk h = true
  loose : d.loose = []
  txt : ftext nC d.files = framesOf h
  wv : w = ⟨h.length, lenT h, 0⟩
structure WInvC (d : Dk) (h m : List BA) (rs : Bool) : Prop where
  ok : d.Ok
  okh : allOk h = true
  okm : allOk m = true
  few : d.loose.length ≤ 1
  cr : ∀ keep torn, (∃ k, ftext nC (d.crash keep torn).files = framesOf h ++ (framesOf m).extract 0 k) ∨ (rs = true ∧ ftext nC (d.crash keep torn).files = ⟨#[]⟩)
theorem WGoodC.inv {d : Dk} {w : Wv} {h : List BA} (g : WGoodC d w h) (m : List BA) (hm : allOk m = true) (rs : Bool) : WInvC d h m rs where
  ok := g.ok
  okh := g.okh
  okm := hm
  few := by rw [g.loose]; simp
  cr keep torn := by
    left
    refine ⟨0, ?_⟩
    show ftext nC (d.torn (d.kept keep) torn) = _
    have hs : d.sure = d.files := by have := g.ok.play; rw [g.loose] at this; exact this
    rw [torn_none g.loose, hs, g.txt]
    exact ext_left0 h m
theorem WInvC.still {d : Dk} {h m : List BA} {rs : Bool} (g : WInvC d h m rs) : WInvC { d with still := true } h m rs :=
  ⟨{ g.ok with }, g.okh, g.okm, g.few, g.cr⟩
theorem WInvC.synced {d : Dk} {h m : List BA} {rs : Bool} (g : WInvC d h m rs) (h20 : d.sync.2 = 20) : WInvC d.sync.1 h m rs := by
  rcases sync_cases d with ⟨_, e | e⟩ | ⟨e, _⟩
  · rw [e]; exact g
  · rw [e]; exact g.still
  · rw [e] at h20; cases h20
theorem append_goodC {d : Dk} {w : Wv} {h : List BA} (g : WGoodC d w h) (l : List BA) (hl : allOk l = true) (hz : lenT l ≤ 549755813888) :
    ((appendW w d nC l).2.2 = 0 ∧ WGoodC (appendW w d nC l).2.1 (appendW w d nC l).1 (h ++ l)) ∨ ((appendW w d nC l).2.2 = 4 ∧ WGoodC (appendW w d nC l).2.1 (appendW w d nC l).1 h) ∨
    ((appendW w d nC l).2.2 = 20 ∧ (appendW w d nC l).1.fault = 20 ∧ WInvC (appendW w d nC l).2.1 h l false ∧ l ≠ []) := by
  have hw := g.wv
  have hfault : w.fault = 0 := by rw [hw]
  unfold appendW
  rw [if_neg (by rw [hfault]; simp), if_neg (by rw [hl]; simp)]
  by_cases h0 : l.length = 0
  · have e : l = [] := List.length_eq_zero_iff.1 h0
    rw [if_pos h0, e, List.append_nil]
    exact .inl ⟨rfl, g⟩
  rw [if_neg h0]
  have hne : l ≠ [] := fun e => h0 (by rw [e]; rfl)
  have hdown : (w.down 20).fault = 20 := rfl
  have hsz : (framesOf l).size ≤ 549755813888 := by rw [framesOf_size]; exact hz
  have hok1 := g.ok.append (name := nC) (s := framesOf l) hsz
  have key : (d.append nC (framesOf l)).2 = 20 ∧ WInvC (d.append nC (framesOf l)).1 h l false ∨ (d.append nC (framesOf l) = (d, 4)) ∨
      ((d.append nC (framesOf l)).2 = 0 ∧ WInvC (d.append nC (framesOf l)).1 h l false ∧ ftext nC (d.append nC (framesOf l)).1.files = framesOf (h ++ l)) := by
    unfold Dk.append at hok1 ⊢
    rw [live1 d may_nC] at hok1 ⊢
    cases hst : d.still with
    | true => left; simp only [if_true]; rw [if_pos (by decide)]; exact ⟨rfl, g.inv l hl false⟩
    | false =>
      rw [hst] at hok1
      simp only [Bool.false_eq_true, if_false, ne_eq, not_true_eq_false] at hok1 ⊢
      split
      · exact .inr (.inl rfl)
      · rename_i hroom
        rw [if_neg hroom] at hok1
        by_cases hf : d.fuse = 0
        · rw [doC_0 _ _ hf]; exact .inl ⟨rfl, (g.inv l hl false).still⟩
        · rw [doC_eq _ _ hf] at hok1 ⊢
          have hs : d.sure = d.files := by have := g.ok.play; rw [g.loose] at this; exact this
          refine .inr (.inr ⟨rfl, ⟨hok1, g.okh, hl, by show (d.loose ++ [_]).length ≤ 1; rw [g.loose]; simp, fun keep torn => ?_⟩, ?_⟩)
          · left
            show ∃ k, ftext nC (Dk.torn _ _ torn) = _
            generalize Dk.kept _ keep = q
            unfold Dk.torn
            dsimp only
            rw [g.loose, List.nil_append, hs]
            cases q with
            | zero =>
              by_cases ht : 0 < torn
              · refine ⟨(if ((framesOf l).size : Int) < torn then ((framesOf l).size : Int) else torn).toNat, ?_⟩
                have e : ([Cl.app nC (framesOf l)][0]?.bind (·.piece torn)) = some (.app nC ((framesOf l).extract 0 (if ((framesOf l).size : Int) < torn then ((framesOf l).size : Int) else torn).toNat)) := by simp [Cl.piece, ht]
                rw [e]
                show ftext nC (fput nC _ d.files) = _
                rw [ftext_put, if_pos rfl]
                show ftext nC d.files ++ _ = _
                rw [g.txt]
              · refine ⟨0, ?_⟩
                have e : ([Cl.app nC (framesOf l)][0]?.bind (·.piece torn)) = none := by simp [Cl.piece, ht]
                rw [e]
                show ftext nC d.files = _
                rw [g.txt]; exact ext_left0 h l
            | succ q =>
              refine ⟨(framesOf l).size, ?_⟩
              have e : ([Cl.app nC (framesOf l)][q + 1]?.bind (·.piece torn)) = none := by simp
              rw [e]
              show ftext nC (play d.files ([Cl.app nC (framesOf l)].take (q + 1))) = _
              rw [List.take_of_length_le (by simp)]
              show ftext nC (fput nC (ftext nC d.files ++ framesOf l) d.files) = _
              rw [ftext_put, if_pos rfl, g.txt, ext_all]
          · show ftext nC (fput nC (ftext nC d.files ++ framesOf l) d.files) = _
            rw [ftext_put, if_pos rfl, g.txt, framesOf_append]
  rcases key with ⟨e, hi⟩ | e | ⟨e, hi, htx⟩
  · rw [e, if_pos (by decide)]
    exact .inr (.inr ⟨rfl, hdown, hi, hne⟩)
  · rw [e, if_pos (by simp)]
    exact .inr (.inl ⟨rfl, g⟩)
  · rw [e, if_neg (by simp)]
    have hok2 := hok1.sync
    rcases sync_cases (d.append nC (framesOf l)).1 with ⟨e2, _⟩ | ⟨e2, hl2, hf2, _⟩
    · have hi2 := hi.synced e2
      rw [e2, if_pos (by decide)]
      exact .inr (.inr ⟨rfl, hdown, hi2, hne⟩)
    · rw [e2, if_neg (by simp)]
      refine .inl ⟨rfl, hok2, by rw [allOk_app, g.okh, hl]; rfl, hl2, by show ftext nC (d.append nC (framesOf l)).1.sync.1.files = _; rw [hf2]; exact htx, ?_⟩
      rw [hw]
      simp [lenT_app]
theorem read_nC {d : Dk} (hd : d.Ok) (hs : d.still = false) : (d.read nC 0 16777216).1 = ftext nC d.files ∧ ((d.read nC 0 16777216).2 = 0 ∧ d.has nC = true ∨ (d.read nC 0 16777216).2 = 3 ∧ d.has nC = false) := by
  rw [read_eq d may_nC 16777216 (by decide), hs]
  simp only [Bool.false_eq_true, if_false]
  cases hh : d.has nC with
  | false => simp only [Bool.not_false, if_true]; exact ⟨(has_false hh).symm, .inr ⟨trivial, trivial⟩⟩
  | true =>
    simp only [Bool.not_true, Bool.false_eq_true, if_false]
    have hz := ftext_le nC d.files
    have hu := hd.used
    exact ⟨cut_all _ _ (by omega), .inl ⟨trivial, trivial⟩⟩
theorem wal_textC {d : Dk} (hd : d.Ok) (hl : d.loose = []) (hf : d.fuse = -1) (hs : d.still = false) {h l : List BA} (hh : allOk h = true) (hll : allOk l = true) {k : Nat} (ht : ftext nC d.files = framesOf h ++ (framesOf l).extract 0 k) :
    ∃ j, (openW d nC).2 = (0, h ++ l.take j, lenT (h ++ l.take j)) ∧ WGoodC (openW d nC).1 ⟨(h ++ l.take j).length, lenT (h ++ l.take j), 0⟩ (h ++ l.take j) := by
  obtain ⟨j, e, h1, h2, h3, h4⟩ := scan_text h l hh hll k
  rw [← ht] at h1 h2 h3 h4
  obtain ⟨r1, r2⟩ := read_nC hd hs
  have hok : allOk (h ++ l.take j) = true := by rw [allOk_app, hh, allOk_take hll j]; rfl
  refine ⟨j, ?_⟩
  generalize h ++ l.take j = m at h1 h2 h3 h4 hok
  have hrd : ¬ ((d.read nC 0 16777216).2 ≠ 0 ∧ (d.read nC 0 16777216).2 ≠ 3) := by
    rintro ⟨a, b⟩
    rcases r2 with ⟨r2, _⟩ | ⟨r2, _⟩
    · exact a r2
    · exact b r2
  unfold openW openT
  rw [if_neg hrd, r1, h1]
  dsimp only
  rcases h2 with ⟨rfl, h5⟩ | rfl
  · have hos : openS d = (d, 0) := by unfold openS; rw [hl]; rfl
    simp only [Int.reduceEq, if_false, ne_eq, not_true_eq_false, hos]
    exact ⟨trivial, hd, hok, hl, h5, rfl⟩
  · have hhas : d.has nC = true := by
      rcases r2 with ⟨_, r⟩ | ⟨_, r⟩
      · exact r
      · have := has_false r
        rw [this, scanOf_nil] at h1
        simp at h1
    have htr : d.truncate nC (lenT m : Int) = d.doC (.trunc nC (lenT m : Int)) := by
      unfold Dk.truncate
      rw [live1 d may_nC, hs]
      simp only [Bool.false_eq_true, if_false, ne_eq, not_true_eq_false, hhas, Bool.not_true]
      rw [if_neg (by omega), if_neg (by omega)]
    have hok1 := hd.truncate (name := nC) (n := (lenT m : Int))
    rw [htr, doC_eq _ _ (by rw [hf]; decide)] at hok1
    simp only [Int.reduceEq, if_false, if_true, ne_eq, not_true_eq_false]
    rw [htr, doC_eq _ _ (by rw [hf]; decide)]
    dsimp only at hok1 ⊢
    generalize hd1 : ({ d with fuse := if (-1 : Int) > d.fuse - 1 then -1 else d.fuse - 1, files := (Cl.trunc nC (lenT m : Int)).run d.files, loose := d.loose ++ [Cl.trunc nC (lenT m : Int)] } : Dk) = d1 at hok1 ⊢
    have f1 : d1.fuse = -1 := by rw [← hd1]; dsimp only; rw [hf]; rfl
    have f2 : d1.still = false := by rw [← hd1]; exact hs
    have f3 : d1.files = (Cl.trunc nC (lenT m : Int)).run d.files := by rw [← hd1]
    have f4 : 0 < d1.loose.length := by rw [← hd1]; simp
    have hsy : d1.sync = (({ d1 with fuse := if (-1 : Int) > d1.fuse - 1 then -1 else d1.fuse - 1 } : Dk).settle, 0) := by
      unfold Dk.sync
      rw [live0 d1, f2]
      simp only [Bool.false_eq_true, if_false, ne_eq, not_true_eq_false]
      rw [if_neg (by rw [f1]; decide)]
    have hos : openS d1 = d1.sync := by unfold openS; rw [if_pos f4]
    rw [hos, hsy]
    simp only [not_true_eq_false, if_false]
    have hok2 := hok1.sync
    rw [hsy] at hok2
    refine ⟨trivial, hok2, hok, rfl, ?_, rfl⟩
    show ftext nC d1.files = _
    rw [f3]
    show ftext nC (fput nC ((ftext nC d.files).extract 0 ((lenT m : Nat) : Int).toNat) d.files) = _
    rw [ftext_put, if_pos rfl, Int.toNat_natCast, h3]
end Go.Proofs.YtmnafjonbeihiaaGreatDoor
