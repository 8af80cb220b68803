/- THE FRAMEWORK, PART F: pointers held against each other; contracts used otherwise. -/
import Derived.Test.YtgmobpngcilgjaaFwE
namespace Go.Fx
open Go

section
variable {X : Cx} {ops : Array Oper} {nb : List Nat} {N : Act → World → Prop} {i : Nat} {os : List Oper} {Ls : List HProp} {ds : List Deferred} {ρ : Regs} {L : List HProp} {ty : TypeId} {d : Nat}

theorem shape_of {w : World} {b : Nat} {cs : Array Value} {T : TypeId} {fr : Nat × Nat} (h : w.heap[b]? = some (.cells cs T fr)) : w.shape? b = some (T, cs.size) := by simp [World.shape?, h]
theorem frozen_of {w : World} {b o : Nat} {s : Option Nat} {cs : Array Value} {T : TypeId} (h : w.heap[b]? = some (.cells cs T (0, 0))) : w.frozen? ⟨b, o, s⟩ = false := by simp [World.frozen?, h]

theorem run_stringish {P : Program} {w : World} {a : Addr} {cs : Array Value} {T : TypeId} (h : w.heap[a.block]? = some (.cells cs T (0, 0))) : (stringish a).run P w = .ok false w := by
  have h1 : w.frozen? a = false := frozen_of (o := a.off) (s := a.spot) h
  have h2 : w.frozen? ⟨a.block, cs.size, none⟩ = false := frozen_of h
  simp [stringish, h1, shape_of h, h2]

theorem run_noView {P : Program} {w : World} {a : Addr} {cs : Array Value} {T : TypeId} {fr : Nat × Nat} (h : w.heap[a.block]? = some (.cells cs T fr)) : (noView a).run P w = .ok () w := by
  simp [noView, viewAt, shape_of h]

theorem run_sameAddr {P : Program} {w : World} {a b : Addr} {cs cs' : Array Value} {T T' : TypeId} (h : w.heap[a.block]? = some (.cells cs T (0, 0))) (h' : w.heap[b.block]? = some (.cells cs' T' (0, 0))) :
    (sameAddr a b).run P w = .ok (decide (a = b)) w := by
  unfold sameAddr
  by_cases hb : a.block = b.block
  · simp [hb]; rfl
  · have hne : a ≠ b := fun e => hb (by rw [e])
    have h1 : w.frozen? a = false := frozen_of (o := a.off) (s := a.spot) h
    simp [hb, h1, run_noView h, run_noView h', mayBeOne, run_stringish h, run_stringish h', shape_of h', hne]

theorem eql_same {a : Addr} : nilB .eql (decide (a = a)) = true := by simp [nilB]
theorem neq_same {a : Addr} : nilB .neq (decide (a = a)) = false := by simp [nilB]
theorem eql_ne {a b : Addr} (h : a ≠ b) : nilB .eql (decide (a = b)) = false := by simp [nilB, h]
theorem neq_ne {a b : Addr} (h : a ≠ b) : nilB .neq (decide (a = b)) = true := by simp [nilB, h]

theorem a_ptr_eq {op : BinOp} {xt yt e n : Nat} [I : Ty X.P xt (.pointer e)] [J : Sz X.P e n] {x y : Operand} {a b : Addr} {cs cs' : Array Value} {T T' : TypeId} {v : Bool} (hn : Nat.beq n 0 = false) (hx : ev ρ x = .pointer (some a)) (hy : ev ρ y = .pointer (some b)) (ho : isEq op = true)
    (ha : RdIn Ls a.block (.cells cs T (0, 0))) (hb : RdIn Ls b.block (.cells cs' T' (0, 0))) (hv : nilB op (decide (a = b)) = v) (hd : Nat.blt d X.nt = true)
    (h : OpsL X ops nb N (i + 1) os Ls ds (upd ρ d (.bool v)) L) : Op1 X ops nb N i (some d) (.binOp op xt x y yt) ty os Ls ds ρ L := by
  subst hv
  have hn' : n ≠ 0 := fun e => by subst e; simp at hn
  have hq : ∀ w, Sats X.w0 w Ls → (Op.equal xt (.pointer (some a)) (.pointer (some b))).run X.P w = .ok (decide (a = b)) w := by
    intro w hs
    rw [equal_unfold, Op.equalIn]
    simp only [Sem.run_bind, I.run_underlying, Result.andThen_ok, J.run_sizeOf, ne_eq, hn', not_false_eq_true, if_true, run_sameAddr (ha.heap hs) (hb.heap hs)]
  cases op <;> first | (simp [isEq] at ho; done) | skip
  · refine op_quiet (fun _ e => by cases e) (fun _ _ _ => by simp [qk]) (fun x hx => by cases hx; exact hd) ?_ h
    intro pos after gd w hw
    have hs := hw.resolve_left (by simp [qk])
    have e1 : (binOp .eql xt (.pointer (some a)) (.pointer (some b))) = (do pure (.bool (← Op.equal xt (.pointer (some a)) (.pointer (some b))))) := rfl
    have e2 : eqGuard .eql xt x y (.pointer (some a)) (.pointer (some b)) = pure () := rfl
    simp only [execOp, hx, hy, Sem.run_bind, e1, e2, Sem.run_pure, Result.andThen_ok, hq w hs, nilB]
  · refine op_quiet (fun _ e => by cases e) (fun _ _ _ => by simp [qk]) (fun x hx => by cases hx; exact hd) ?_ h
    intro pos after gd w hw
    have hs := hw.resolve_left (by simp [qk])
    have e1 : (binOp .neq xt (.pointer (some a)) (.pointer (some b))) = (do pure (.bool (!(← Op.equal xt (.pointer (some a)) (.pointer (some b)))))) := rfl
    have e2 : eqGuard .neq xt x y (.pointer (some a)) (.pointer (some b)) = pure () := rfl
    simp only [execOp, hx, hy, Sem.run_bind, e1, e2, Sem.run_pure, Result.andThen_ok, hq w hs, nilB]

end

/-- A piece that is made of others. -/
theorem SatL.flat {M L : List HProp} {h : Frag} (s : SatL ((fun h => SatL M h) :: L) h) : SatL (M ++ L) h := by
  induction M generalizing h with
  | nil => exact s.tail
  | cons A M ih =>
    obtain ⟨h1, h2, ha, l1, l2, hH, hL⟩ := s
    obtain ⟨h3, h4, hb, l3, l4, hA, hM⟩ := hH
    refine ⟨h3, h4.join h2, ?_, l3.trans l1, Frag.join_le (l4.trans l1) l2, hA, ih ⟨h4, h2, ha.sub l4 (.refl _), Frag.le_join _ _, Frag.le_join' (ha.sub l4 (.refl _)), hM, hL⟩⟩
    intro x o o' e e'
    unfold Frag.join at e'
    split at e'
    · rename_i o'' h''; exact hb _ _ _ e h''
    · exact ha _ _ _ (l3 _ _ e) e'

theorem SatL.unflat : ∀ {M L : List HProp} {h : Frag}, SatL (M ++ L) h → SatL ((fun h => SatL M h) :: L) h
  | [], L, h, s => ⟨fun _ => none, h, (fun _ _ _ e _ => by cases e), (fun _ _ e => by cases e), Frag.le.refl h, trivial, s⟩
  | A :: M, L, h, s => by
    obtain ⟨h1, h2, ha, l1, l2, hA, hL⟩ := s
    obtain ⟨h3, h4, hb, l3, l4, hM, hL'⟩ := SatL.unflat hL
    have ha3 : Frag.apart h1 h3 := ha.sub (.refl _) l3
    have ha4 : Frag.apart h1 h4 := ha.sub (.refl _) l4
    refine ⟨h1.join h3, h4, ?_, Frag.join_le l1 (l3.trans l2), l4.trans l2, ⟨h1, h3, ha3, Frag.le_join _ _, Frag.le_join' ha3, hA, hM⟩, hL'⟩
    intro x o o' e e'
    unfold Frag.join at e
    split at e
    · rename_i o'' h''; exact ha4 _ _ _ h'' e'
    · exact hb _ _ _ e e'

theorem satL_emp {A : HProp} {L : List HProp} {h : Frag} (hA : A (fun _ => none)) (s : SatL L h) : SatL (A :: L) h :=
  ⟨fun _ => none, h, (fun _ _ _ e _ => by cases e), (fun _ _ e => by cases e), Frag.le.refl h, hA, s⟩

theorem pts_ne {a b : Nat} {o o' : Obj} {L : List HProp} {h : Frag} (s : SatL (pts a o :: pts b o' :: L) h) : a ≠ b := by
  obtain ⟨h1, h2, ha, _, _, hA, h3, h4, _, l3, _, hB, _⟩ := s
  intro e
  subst e
  exact ha _ _ _ hA (l3 _ _ hB)

/-- A contract in other words. -/
theorem FSpec.conseq {P : Program} {f : FuncId} {args : List Value} {pre pre' : List HProp} {Y Y' : Type} {φ : Y → Prop} {φ' : Y' → Prop} {ret : Y → Value} {ret' : Y' → Value} {post : Y → List HProp} {post' : Y' → List HProp}
    (s : FSpec P f args pre Y φ ret post) (hp : ∀ R h, SatL (pre' ++ R) h → SatL (pre ++ R) h) (hq : ∀ y, φ y → ∃ y', φ' y' ∧ ret' y' = ret y ∧ ∀ R h, SatL (post y ++ R) h → SatL (post' y' ++ R) h) : FSpec P f args pre' Y' φ' ret' post' := by
  intro w0 w R hs
  refine (s w0 w R (hs.map (hp R))).mono ?_
  rintro e w' ⟨y, hy, rfl, hs'⟩
  obtain ⟨y', hy', hr, hq'⟩ := hq y hy
  exact ⟨y', hy', by rw [hr], hs'.map (hq' R)⟩

end Go.Fx
