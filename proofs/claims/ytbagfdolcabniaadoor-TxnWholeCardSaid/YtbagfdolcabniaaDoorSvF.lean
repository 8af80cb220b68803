/- rel.Rows: the rows of a table, in order. -/
import Derived.Test.YtbagfdolcabniaaDoorG3
import Derived.Test.YtbagfdolcabniaaDoorSvE
import Derived.Test.YtbagfdolcabniaaDoorG4
import Derived.Test.YtbagfdolcabniaaDoorTxC
-- @DEFS Y
set_option linter.unusedSimpArgs false
set_option linter.unusedVariables false
set_option maxRecDepth 100000
set_option pp.deepTerms true
set_option pp.maxSteps 200000
namespace Go.Proofs.YtbagfdolcabniaaDoor
open Go Go.Fx Go.Proofs Go.Pl

def Rl.Wf (r : Rl) : Prop := ∀ x ∈ r.rows, ∀ v ∈ x.2, v.wf
/-- The rows of a table that are asked for, in whatever order. -/
def pickK (r : Rl) (t : Int) (ask : List Vl → Bool) (ks : List Pc) : List (List Vl) := ks.filterMap fun p => if p.1 = t ∧ ask ((aget p r.rows).getD []) = true then some ((aget p r.rows).getD []) else none
def rowsAt (r : Rl) (t : Int) (ask : List Vl → Bool) : List (List Vl) := pickK r t ask (r.rows.map (·.1))
structure InOrder (r : Rl) (t : Int) (ask : List Vl → Bool) (l : List (List Vl)) : Prop where
  perm : l.Perm (rowsAt r t ask)
  srt : l.Pairwise fun x y => lessV (Pl.keyOf r.s t x) (Pl.keyOf r.s t y) = true
theorem InOrder.uniq {r r' : Rl} {t : Int} {ask : List Vl → Bool} {l l' : List (List Vl)} (h : InOrder r t ask l) (h' : InOrder r' t ask l') (hs : r.s = r'.s) (hp : (rowsAt r t ask).Perm (rowsAt r' t ask)) : l = l' := by
  have h2 := h'.srt
  rw [← hs] at h2
  exact perm_sorted (lt := fun x y => lessV (Pl.keyOf r.s t x) (Pl.keyOf r.s t y) = true) (fun x y => less_asym _ _) ((h.perm.trans hp).trans h'.perm.symm) h.srt h2
theorem EsOk.keys {P : HProp} {es : List (Pc × Value)} {rows : RR} (h : EsOk P es rows) : es.map (·.1) = rows.map (·.1) := by
  induction h with
  | nil => rfl
  | cons h hs ih => simp [ih]
theorem aget_of_mem {r : Rl} (h : r.Ok) {p : Pc} {l : List Vl} (hm : (p, l) ∈ r.rows) : aget p r.rows = some l := by
  cases hg : aget p r.rows with
  | none => exact absurd (List.mem_map_of_mem (f := (·.1)) hm) (aget_none hg)
  | some l' => rw [row_uniq h (aget_mem hg) hm]
theorem pickK_app (r : Rl) (t : Int) (ask : List Vl → Bool) (a b : List Pc) : pickK r t ask (a ++ b) = pickK r t ask a ++ pickK r t ask b := by unfold pickK; rw [List.filterMap_append]
theorem pickK_mid (r : Rl) (t : Int) (ask : List Vl → Bool) (a b : List Pc) (p : Pc) : (pickK r t ask (a ++ p :: b)).Perm (pickK r t ask [p] ++ pickK r t ask (a ++ b)) := by
  rw [show a ++ p :: b = a ++ ([p] ++ b) by simp, pickK_app, pickK_app, pickK_app, ← List.append_assoc, ← List.append_assoc]
  exact (List.perm_append_comm).append_right _
theorem rowsAt_len {r : Rl} (h : r.Ok) (t : Int) (ask : List Vl → Bool) : (rowsAt r t ask).length ≤ 200 := by
  unfold rowsAt pickK
  have := List.length_filterMap_le (fun p : Pc => if p.1 = t ∧ ask ((aget p r.rows).getD []) = true then some ((aget p r.rows).getD []) else none) (r.rows.map (·.1))
  have h2 := h.len
  rw [List.length_map] at this
  omega
/-- What each row that is asked for has. -/
theorem rowsAt_mem {r : Rl} (h : r.Ok) {t : Int} {ask : List Vl → Bool} {l : List Vl} (hm : l ∈ rowsAt r t ask) : ∃ p, (p, l) ∈ r.rows ∧ p.1 = t := by
  unfold rowsAt pickK at hm
  obtain ⟨p, hp, e⟩ := List.mem_filterMap.1 hm
  obtain ⟨⟨p', l'⟩, hx, rfl⟩ := List.mem_map.1 hp
  dsimp only at e
  rw [aget_of_mem h hx] at e
  split at e
  · rename_i hc
    simp only [Option.some.injEq, Option.getD_some] at e
    subst e
    exact ⟨p', hx, hc.1⟩
  · cases e
/-- The rows of a table that are asked for have keys of their own. -/
theorem rowsAt_keys {r : Rl} (h : r.Ok) (t : Int) (ask : List Vl → Bool) : (rowsAt r t ask).Pairwise fun x y => Pl.keyOf r.s t x ≠ Pl.keyOf r.s t y := by
  unfold rowsAt pickK
  rw [List.pairwise_filterMap]
  have hn := h.nd
  rw [List.nodup_iff_pairwise_ne] at hn
  refine hn.imp_of_mem ?_
  intro p q hp hq hne x hx y hy e
  obtain ⟨⟨p', l⟩, h1, rfl⟩ := List.mem_map.1 hp
  obtain ⟨⟨q', l'⟩, h2, rfl⟩ := List.mem_map.1 hq
  dsimp only at hx hy hne
  rw [aget_of_mem h h1] at hx
  rw [aget_of_mem h h2] at hy
  split at hx
  · rename_i c1
    split at hy
    · rename_i c2
      simp only [Option.mem_def, Option.some.injEq, Option.getD_some] at hx hy
      subst hx hy
      have k1 := (h.rows _ h1).key
      have k2 := (h.rows _ h2).key
      dsimp only at k1 k2
      rw [c1.1] at k1
      rw [c2.1] at k2
      exact hne (Prod.ext (c1.1.trans c2.1.symm) (by rw [← k1, ← k2, e]))
    · cases hy
  · cases hx
end Go.Proofs.YtbagfdolcabniaaDoor
