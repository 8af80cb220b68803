import Derived.Test.YtphaegcoldpclaaDoorQaD
import Derived.Test.YtphaegcoldpclaaDoorSdE
set_option linter.unusedSimpArgs false
set_option linter.unusedVariables false
set_option maxRecDepth 100000
namespace Go.Proofs.YtphaegcoldpclaaDoor
open Go Go.Fx Go.Proofs Go.Pl

theorem belongsR_par {ahead : Sc} {t : Tc} (h : belongsR ahead t = true) : t.par < (ahead.length : Int) := by
  unfold belongsR at h
  split at h
  · have := of_decide_eq_true h; omega
  · split at h
    · cases h
    · omega
theorem checkS_names {s : Sc} (h : namedS (s.map (·.name)) = false) : checkS s = false := by
  unfold checkS depthsS
  split
  · rfl
  · split
    · rfl
    · rw [if_neg (by rw [h]; decide)]; rfl
theorem namedS_no {l : List BA} {s : BA} (h : s ∈ l) (hn : nameS s = false) : namedS l = false := by
  unfold namedS
  rw [show l.all nameS = false from List.all_eq_false.2 ⟨s, h, by simp [hn]⟩, Bool.false_and]
structure UpTo (ts : List Tb) (i : Nat) (ds : List Int) : Prop where
  go : goD [] [] (ts.map Tb.c) = goD ((ts.take i).map Tb.c) ds ((ts.drop i).map Tb.c)
  ok : AheadOk ((ts.take i).map Tb.c) ds
  pd : ∀ (j : Nat) (p : Tb), j < i → ts[j]? = some p → p.par < (j : Int) ∧ ds[j]? = some (depR ds p.c)
  nm : ((ts.take i).map (·.name)).all nameS = true
  nd : ((ts.take i).map (·.name)).Nodup
theorem UpTo.step {ts : List Tb} {i : Nat} {ds : List Int} {t : Tb} (h : UpTo ts i ds) (hi : i < ts.length) (ht : ts[i]? = some t) (hn : nameS t.name = true) (hc : colsR t.cols t.key = true) (hb : belongsR ((ts.take i).map Tb.c) t.c = true) (hd : depR ds t.c ≤ 8)
    (hno : t.name ∉ (ts.take i).map (·.name)) : UpTo ts (i + 1) (ds ++ [depR ds t.c]) := by
  obtain ⟨hi', rfl⟩ := List.getElem?_eq_some_iff.1 ht
  have htk : ts.take (i + 1) = ts.take i ++ [ts[i]] := List.take_succ_eq_append_getElem hi
  have hdr : ts.drop i = ts[i] :: ts.drop (i + 1) := List.drop_eq_getElem_cons hi
  have hlen : ds.length = i := by rw [h.ok.len, List.length_map, List.length_take]; omega
  have htS : tableS ((ts.take i).map Tb.c) ds ts[i].c = some (depR ds ts[i].c) := by
    rw [tableS_ref _ _ _ h.ok.dep, if_pos ⟨hc, hb, hd⟩]
  have hpar : ts[i].par < (i : Int) := by
    have := belongsR_par hb
    rw [List.length_map, List.length_take] at this
    have e : ts[i].c.par = ts[i].par := rfl
    omega
  have hst : ∀ (p : Tb), p.par < (i : Int) → depR (ds ++ [depR ds ts[i].c]) p.c = depR ds p.c := fun p hp => by
    have e : p.c.par = p.par := rfl
    unfold depR
    rw [e]
    split
    · rfl
    · rw [List.getElem?_append_left (by omega)]
  refine ⟨?_, ?_, fun j p hj hp => ?_, ?_, ?_⟩
  · rw [h.go, hdr, List.map_cons, goD_step htS, htk, List.map_append]; rfl
  · rw [htk, List.map_append]; exact h.ok.snoc htS
  · by_cases hji : j < i
    · obtain ⟨a, b⟩ := h.pd j p hji hp
      refine ⟨a, ?_⟩
      rw [hst p (by omega), List.getElem?_append_left (by omega)]
      exact b
    · obtain rfl : j = i := by omega
      obtain rfl : ts[j] = p := Option.some.inj ((List.getElem?_eq_getElem hi).symm.trans hp)
      refine ⟨hpar, ?_⟩
      rw [hst _ hpar, List.getElem?_append_right (by omega), hlen, Nat.sub_self]; rfl
  · rw [htk, List.map_append, List.all_append, h.nm]; simp [hn]
  · rw [htk, List.map_append, List.nodup_append]
    exact ⟨h.nd, by simp, fun a ha b hb e => by rw [List.map_cons, List.map_nil, List.mem_singleton] at hb; subst hb; subst e; exact hno ha⟩
theorem UpTo.bad {ts : List Tb} {i : Nat} {ds : List Int} {t : Tb} (h : UpTo ts i ds) (hi : i < ts.length) (ht : ts[i]? = some t) (hc : ¬ (colsR t.cols t.key = true ∧ belongsR ((ts.take i).map Tb.c) t.c = true ∧ depR ds t.c ≤ 8)) : checkS (ts.map Tb.c) = false := by
  obtain ⟨hi', rfl⟩ := List.getElem?_eq_some_iff.1 ht
  have hdr : ts.drop i = ts[i] :: ts.drop (i + 1) := List.drop_eq_getElem_cons hi
  have htS : tableS ((ts.take i).map Tb.c) ds ts[i].c = none := by
    rw [tableS_ref _ _ _ h.ok.dep]; exact if_neg hc
  exact checkS_none (by rw [h.go, hdr, List.map_cons, goD_none htS])
theorem UpTo.all {ts : List Tb} {ds : List Int} (h : UpTo ts ts.length ds) (h1 : 1 ≤ ts.length) (h2 : ts.length ≤ 12) : checkS (ts.map Tb.c) = true := by
  have hg := h.go
  rw [List.take_length, List.drop_length] at hg
  rw [checkS_some (ds := ds) (hg.trans rfl) (by simpa using h1) (by simpa using h2), List.map_map]
  have hn := h.nm
  have hd := h.nd
  rw [List.take_length] at hn hd
  have e : (ts.map ((fun x : Tc => x.name) ∘ Tb.c)) = ts.map (·.name) := rfl
  unfold namedS
  rw [e, hn, Bool.true_and]
  exact decide_eq_true hd
theorem UpTo.zero {ts : List Tb} : UpTo ts 0 [] := ⟨rfl, ⟨rfl, fun _ h => by simp at h, fun _ h => by simp at h⟩, fun _ _ h => by omega, rfl, by simp⟩
end Go.Proofs.YtphaegcoldpclaaDoor
