import Derived.Test.YtphaegcoldpclaaGreatDoorSdP
set_option linter.unusedSimpArgs false
set_option linter.unusedVariables false
namespace Go.Pl
open Go

structure Did (r : Rl) (o : Opr) (p : Pc) (r' : Rl) (was now : List Vl) : Prop where
  pl : placeS r.s o = some p
  s : r'.s = r.s
  turns : r'.turns = IntKind.u64.wrap (r.turns + 1)
  was : was = (aget p r.rows).getD []
  kind : (o.kind = 1 ∧ aget p r.rows = none ∧ r'.rows = aput p o.row r.rows ∧ now = o.row) ∨ (o.kind = 2 ∧ (aget p r.rows).isSome = true ∧ r'.rows = aput p o.row r.rows ∧ now = o.row) ∨
    (o.kind = 3 ∧ (aget p r.rows).isSome = true ∧ r'.rows = adel p r.rows ∧ now = [])
theorem doOp_did (r : Rl) (o : Opr) : ((r.doOp o).2.2.2 ≠ 0 ∧ (r.doOp o).1 = r ∧ (r.doOp o).2.1 = [] ∧ (r.doOp o).2.2.1 = []) ∨ ((r.doOp o).2.2.2 = 0 ∧ ∃ p, Did r o p (r.doOp o).1 (r.doOp o).2.1 (r.doOp o).2.2.1) := by
  unfold Rl.doOp
  split
  · exact .inl ⟨by simp, rfl, rfl, rfl⟩
  rename_i hk
  split
  · exact .inl ⟨by simp, rfl, rfl, rfl⟩
  · rename_i p hp
    dsimp only
    split
    · rename_i h1
      split
      · exact .inl ⟨by simp, rfl, rfl, rfl⟩
      · rename_i hn
        split
        · exact .inl ⟨by simp, rfl, rfl, rfl⟩
        · have hg : aget p r.rows = none := by simpa using hn
          exact .inr ⟨rfl, p, ⟨hp, rfl, rfl, rfl, .inl ⟨h1, hg, rfl, rfl⟩⟩⟩
    · split
      · exact .inl ⟨by simp, rfl, rfl, rfl⟩
      · rename_i h1 hs
        have hs' : (aget p r.rows).isSome = true := by cases hq : (aget p r.rows).isSome with
          | true => rfl
          | false => exact absurd hq hs
        split
        · rename_i h2
          exact .inr ⟨rfl, p, ⟨hp, rfl, rfl, rfl, .inr (.inl ⟨h2, hs', rfl, rfl⟩)⟩⟩
        · rename_i h2
          exact .inr ⟨rfl, p, ⟨hp, rfl, rfl, rfl, .inr (.inr ⟨by omega, hs', rfl, rfl⟩)⟩⟩
theorem Did.one {r r' : Rl} {o : Opr} {p : Pc} {was now : List Vl} (hr : r.Ok) (d : Did r o p r' was now) :
    p.1 = o.table ∧ hasS r.s o.table = true ∧ (if o.kind = 3 then was else now)[(tabAt r.s o.table).key.toNat]? = some p.2 ∧ 0 ≤ (tabAt r.s o.table).key ∧ keyS r.s o.table p.2 = true := by
  obtain ⟨h1, h2, h3, h4⟩ := placeS_tab d.pl
  have hh : hasS r.s o.table = true := by simp only [keyS, Bool.and_eq_true] at h2; exact h2.1
  obtain ⟨_, _, _, ht, _⟩ := hasS_tab hh
  refine ⟨h1, hh, ?_, ht.key0, h2⟩
  have lay : o.kind ≠ 3 → o.row[(tabAt r.s o.table).key.toNat]? = some p.2 := fun hk => by
    have hro := h3 hk
    have hx := rowS_key hro.row
    have hy := hro.key
    dsimp only at hx hy
    rw [h1] at hx hy
    rw [hx.2.1, hy]
  rcases d.kind with ⟨hk, _, _, hn⟩ | ⟨hk, _, _, hn⟩ | ⟨hk, hs, _, _⟩
  · rw [if_neg (by omega), hn]; exact lay (by omega)
  · rw [if_neg (by omega), hn]; exact lay (by omega)
  · rw [if_pos hk, d.was]
    obtain ⟨u, hu⟩ := Option.isSome_iff_exists.1 hs
    rw [hu]
    have hro := hr.rows _ (aget_mem hu)
    have hx := rowS_key hro.row
    have hy := hro.key
    dsimp only at hx hy
    rw [h1] at hx hy
    show u[_]? = _
    rw [hx.2.1, hy]
theorem Did.len {r r' : Rl} {o : Opr} {p : Pc} {was now : List Vl} (d : Did r o p r' was now) : (o.kind = 1 ∧ r'.rows.length = r.rows.length + 1) ∨ (o.kind = 2 ∧ r'.rows.length = r.rows.length) ∨ (o.kind = 3 ∧ r'.rows.length + 1 = r.rows.length) := by
  rcases d.kind with ⟨h, hn, e, _⟩ | ⟨h, hs, e, _⟩ | ⟨h, hs, e, _⟩
  · exact .inl ⟨h, by rw [e, aput_len_none hn]⟩
  · obtain ⟨u, hu⟩ := Option.isSome_iff_exists.1 hs
    exact .inr (.inl ⟨h, by rw [e, aput_len_some hu]⟩)
  · obtain ⟨u, hu⟩ := Option.isSome_iff_exists.1 hs
    exact .inr (.inr ⟨h, by rw [e, adel_len hu]⟩)
end Go.Pl
