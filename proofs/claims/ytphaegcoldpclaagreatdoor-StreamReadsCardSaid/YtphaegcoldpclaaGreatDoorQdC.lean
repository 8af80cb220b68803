import Derived.Test.YtphaegcoldpclaaGreatDoorG20
import Derived.Test.YtphaegcoldpclaaGreatDoorTxB
import Derived.Test.YtphaegcoldpclaaGreatDoorL14E
import Derived.Test.YtphaegcoldpclaaGreatDoorRkP
set_option linter.unusedSimpArgs false
set_option linter.unusedVariables false
set_option maxRecDepth 100000
namespace Go.Proofs.YtphaegcoldpclaaGreatDoor
open Go Go.Fx Go.Proofs Go.Pl

set_option maxHeartbeats 2000000 in
theorem same15T_spec (a c : List Cm) (u w : Value) (A B Q : HProp) (hA : Vw A 4 u (a.map cmV)) (hB : Vw B 4 w (c.map cmV)) (ha : ∀ x ∈ a, CmR Q x) (hc : ∀ x ∈ c, CmR Q x) (hz : a.length ≤ 1000000) (hr : ∀ x ∈ a, x.bef.length ≤ 1000000 ∧ x.aft.length ≤ 1000000) (he : c.map Cm.c = a.map Cm.c) :
    FSpec Tryz.prog 36 [u, w] [A, B, Q] Unit (fun _ => True) (fun _ => .bool true) (fun _ => [A, B, Q]) := by
  have la : (a.map cmV).length = a.length := by simp
  have lc : (c.map cmV).length = c.length := by simp
  have hlen : c.length = a.length := by have := congrArg List.length he; simpa using this
  have t0 : (!decide (((a.map cmV).length : Int) = ((c.map cmV).length : Int))) = false := by rw [la, lc, hlen]; simp
  refine spec_intro [] _ Tryz.func36 rfl Tryz.ntmps36 (by rfl) (fun w0 R => ?_)
  refine ok_learn (VwIn.slice (VwIn.here hA)) ?_
  rintro ⟨pu, cu, rfl⟩
  refine ok_learn (VwIn.slice (VwIn.there (VwIn.here hB))) ?_
  rintro ⟨pw, cw, rfl⟩
  repeat' (first | (refine go_Y ?_; intros) | (refine gs_Y ?_ ?_ <;> (intro hgd; try (simp only [bn] at hgd))) | (refine gc_Y ?_ ?_ <;> intro _) | fail)
  refine ok_loop' (γ := Nat) (fun i ρ L => i ≤ a.length ∧ Knows ρ [(0, .slice pu (a.map cmV).length cu), (1, .slice pw (c.map cmV).length cw), (5, .int .i64 i)] ∧ L = [A, B, Q] ++ R) (fun i => a.length - i) 0 ⟨by omega, ⟨rfl, rfl, rfl, trivial⟩, rfl⟩ ?_
  rintro i ρ L ⟨hi, hk, rfl⟩
  refine ok_regs hk ?_
  cases t1 : decide ((i : Int) < ((a.map cmV).length : Int)) with
  | false =>
    repeat' (first | (refine go_Y ?_; intros) | (refine gs_Y ?_ ?_ <;> (intro hgd; try (simp only [bn] at hgd))) | (refine gc_Y ?_ ?_ <;> intro _) | fail)
    (refine rt_Y (y := ()) (hrs := Tryz.results36) (hv := ?_) (hφ := ?_))
    · rfl
    · trivial
  | true =>
    have h : i < a.length := by have := of_decide_eq_true t1; omega
    have hc' : i < c.length := by omega
    have hx : (a.map cmV)[i]? = some (cmV a[i]) := by rw [List.getElem?_map, List.getElem?_eq_getElem h]; rfl
    have hy : (c.map cmV)[i]? = some (cmV c[i]) := by rw [List.getElem?_map, List.getElem?_eq_getElem hc']; rfl
    have hn1 : i < (a.map cmV).length := by omega
    have hn2 : i < (c.map cmV).length := by omega
    have hxc : c[i].c = a[i].c := by
      have e2 := congrArg (fun l => l[i]?) he
      simp only [List.getElem?_map, List.getElem?_eq_getElem h, List.getElem?_eq_getElem hc', Option.map_some, Option.some.injEq] at e2
      exact e2
    have hax := ha _ (List.getElem_mem h)
    have hcx := hc _ (List.getElem_mem hc')
    obtain ⟨hz1, hz2⟩ := hr _ (List.getElem_mem h)
    refine ok_learn (VwIn.base (n := 4) (xs := a.map cmV) (VwIn.here hA) (by intro e; rw [e] at hn1; simp at hn1)) ?_
    rintro ⟨bu, ou, rfl⟩
    refine ok_learn (VwIn.base (n := 4) (xs := c.map cmV) (VwIn.there (VwIn.here hB)) (by intro e; rw [e] at hn2; simp at hn2)) ?_
    rintro ⟨bw, ow, rfl⟩
    generalize a[i] = x at hx hxc hax hz1 hz2
    generalize c[i] = y at hy hxc hcx
    obtain ⟨xk, xt, ⟨xb, hxb⟩, xbl, ⟨xa, hxa⟩, xal⟩ := x
    obtain ⟨⟨yb, hyb⟩, ⟨ya, hya⟩, rfl⟩ : ∃ yb ya, y = Cm.mk xk xt yb xbl ya xal := by
      obtain ⟨p, q, r, s, t, v⟩ := y
      simp only [Cm.c, Chg.mk.injEq] at hxc
      obtain ⟨rfl, rfl, rfl, rfl⟩ := hxc
      exact ⟨r, t, rfl⟩
    have s1 := same04Q_spec xbl xbl xb yb Q hax.bv hcx.bv hz1
    have s2 := same04Q_spec xal xal xa ya Q hax.av hcx.av hz2
    rw [show decide (xbl = xbl) = true from by simp] at s1
    rw [show decide (xal = xal) = true from by simp] at s2
    dsimp only [cmV] at hx hy
    have v1 : (!decide (xk = xk)) = false := by simp
    have v2 : (!decide (xt = xt)) = false := by simp
    repeat' (first | (refine go_Y ?_; intros) | (refine gs_Y ?_ ?_ <;> (intro hgd; try (simp only [bn] at hgd))) | (refine gc_Y ?_ ?_ <;> intro _) | fail)
    refine cl_Y (s1) ?_
    intro _ _
    repeat' (first | (refine go_Y ?_; intros) | (refine gs_Y ?_ ?_ <;> (intro hgd; try (simp only [bn] at hgd))) | (refine gc_Y ?_ ?_ <;> intro _) | fail)
    refine cl_Y (s2) ?_
    intro _ _
    repeat' (first | (refine go_Y ?_; intros) | (refine gs_Y ?_ ?_ <;> (intro hgd; try (simp only [bn] at hgd))) | (refine gc_Y ?_ ?_ <;> intro _) | fail)
    refine cont_map (L' := [A, B, Q] ++ R) entD ?_
    refine cont_back (i + 1) ⟨h, ⟨rfl, rfl, rfl, trivial⟩, rfl⟩ (by omega)

structure Am where
  o : Om
  e : Int
def amV (x : Am) : List Value := [.int .u8 x.o.kind, .int .i64 x.o.table, x.o.rv.1, .int .u8 x.e]
structure AsR (A : HProp) (va : Value) (az : List Am) : Prop where
  vw : Vw A 4 va (az.map amV)
  op : ∀ a ∈ az, OmR A a.o
  len : az.length ≤ 140737488355328
theorem OmR.ext {P P' : HProp} (e : Ext P P') {o : Om} (h : OmR P o) : OmR P' o := ⟨e.vw h.vw, h.len, h.txt⟩
def opsUp (az : List Am) (n : Nat) : List Om := (az.take n).map Am.o
end Go.Proofs.YtphaegcoldpclaaGreatDoor
