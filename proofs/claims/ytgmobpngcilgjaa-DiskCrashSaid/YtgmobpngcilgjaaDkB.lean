/- The walks of package disk, part B: may, live. -/
import Derived.Test.YtgmobpngcilgjaaDkA
-- @DEFS Z
set_option linter.unusedSimpArgs false
set_option linter.unusedVariables false
namespace Go.Proofs.Ytgmobpngcilgjaa
open Go Go.Fx Go.Proofs Go.Pl

theorem may_spec (s : ByteArray) (hs : s.size ≤ 4611686018427387904) : FSpec Try.prog 131 [.string s] [] Unit (fun _ => True) (fun _ => .bool (mayN s)) (fun _ => []) := by
  refine spec_intro [143] _ Try.func131 rfl Try.ntmps131 (by rfl) (fun w0 R => ?_)
  repeat' (first | (refine go_Z ?_; intros) | (refine gs_Z ?_ ?_ <;> (intro hgd; try (simp only [Bool.not_true, Bool.not_false] at hgd))) | (refine gc_Z ?_ ?_ <;> intro _) | fail)
  rename_i bb cap
  refine ok_loop' (γ := Nat) (fun n ρ L => n ≤ s.size ∧ (s.data.toList.take n).all mayC = true ∧ Knows ρ [(0, .string s), (6, .slice (some ⟨bb, 0, none⟩) s.size cap), (7, .int .i64 s.size), (8, .int .i64 n)] ∧ L = [bytesR 5 (.slice (some ⟨bb, 0, none⟩) s.size cap) s] ++ R) (fun n => s.size - n) 0 ⟨by omega, rfl, ⟨rfl, rfl, rfl, rfl, trivial⟩, rfl⟩ ?_
  rintro n ρ L ⟨hn, hall, hk, rfl⟩
  refine ok_regs hk ?_
  cases t1 : decide ((n : Int) < (s.size : Int)) with
  | false =>
    have hn' : n = s.size := by simp at t1; omega
    have hfull : s.data.toList.all mayC = true := by rw [hn', List.take_of_length_le (by simp)] at hall; exact hall
    repeat' (first | (refine go_Z ?_; intros) | (refine gs_Z ?_ ?_ <;> (intro hgd; try (simp only [Bool.not_true, Bool.not_false] at hgd))) | (refine gc_Z ?_ ?_ <;> intro _) | fail)
    all_goals (refine rt_Z (y := ()) (hrs := Try.results131) (hv := ?_) (hφ := ?_))
    all_goals first | exact trivial | skip
    all_goals (simp only [decide_eq_true_eq, decide_eq_false_iff_not] at hgd; show Value.bool _ = Value.bool _; congr 1; simp only [mayN, hfull, Bool.true_and]; rw [Bool.eq_iff_iff]; simp; try omega)
  | true =>
    have h : n < s.data.toList.length := by simp at t1; simpa using t1
    have hx : (byteL s)[n]? = some [.int .u8 s.data.toList[n].toNat] := by unfold byteL; rw [List.getElem?_map, List.getElem?_eq_getElem h]; rfl
    have hnt : n + 1 ≤ s.size := by have h' := h; simp at h'; omega
    have hin : s.data.toList[n] ∈ s.data.toList := List.getElem_mem h
    have htk : s.data.toList.take (n + 1) = s.data.toList.take n ++ [s.data.toList[n]] := List.take_succ_eq_append_getElem h
    generalize hc : s.data.toList[n] = c at hx htk hin
    clear hk hc
    repeat' (first | (refine go_Z ?_; intros) | (refine gs_Z ?_ ?_ <;> (intro hgd; try (simp only [Bool.not_true, Bool.not_false] at hgd))) | (refine gc_Z ?_ ?_ <;> intro _) | fail)
    all_goals first
      | (have hm : mayC c = true := by (simp only [mayC, *, Bool.or_self, Bool.false_and, Bool.not_false, Bool.true_and, Bool.and_true, Bool.and_false, Bool.or_true, Bool.true_or, Bool.false_or, Bool.or_false, Bool.not_true]; first | done | rfl)
         refine cont_back (n + 1) ⟨hnt, by rw [htk, List.all_append, hall]; simp [hm], ⟨rfl, rfl, rfl, rfl, trivial⟩, rfl⟩ (by omega))
      | (have hm : mayC c = false := by (simp only [mayC, *, Bool.or_self, Bool.false_and, Bool.not_false, Bool.true_and, Bool.and_true, Bool.and_false, Bool.or_true, Bool.true_or, Bool.false_or, Bool.or_false, Bool.not_true]; first | done | rfl)
         have hN : mayN s = false := by
           have : s.data.toList.all mayC = false := List.all_eq_false.2 ⟨c, hin, by simp [hm]⟩
           simp only [mayN, this, Bool.false_and]
         rw [hN]
         (refine rt_Z (y := ()) (hrs := Try.results131) (hv := ?_) (hφ := ?_))
         · rfl
         · trivial)
end Go.Proofs.Ytgmobpngcilgjaa
