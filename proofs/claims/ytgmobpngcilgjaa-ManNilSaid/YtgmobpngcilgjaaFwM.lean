/- THE FRAMEWORK, PART M: maps. -/
import Derived.Test.YtgmobpngcilgjaaFwW
import Derived.Maps.RangeRun
import Derived.MapKept
set_option linter.unusedSimpArgs false
set_option linter.unusedVariables false
namespace Go.Fx
open Go

/-- A type of keys: what they are in Lean, how they stand as values. -/
structure KT where
  α : Type
  dec : DecidableEq α
  enc : α → Value

instance (K : KT) : DecidableEq K.α := K.dec
@[reducible] def KStr : KT := ⟨ByteArray, inferInstance, .string⟩
@[reducible] def KInt (k : IntKind) : KT := ⟨Int, inferInstance, .int k⟩

section pure
variable {K : KT}
def getK (K : KT) (a : K.α) : List (K.α × Value) → Option Value
  | [] => none
  | (b, v) :: l => if a = b then some v else getK K a l
def putK (K : KT) (a : K.α) (v : Value) : List (K.α × Value) → List (K.α × Value)
  | [] => [(a, v)]
  | (b, u) :: l => if a = b then (a, v) :: l else (b, u) :: putK K a v l
def delK (K : KT) (a : K.α) : List (K.α × Value) → List (K.α × Value)
  | [] => []
  | (b, u) :: l => if a = b then l else (b, u) :: delK K a l
def ixK (K : KT) (a : K.α) : List (K.α × Value) → Nat → Option (Nat × Value)
  | [], _ => none
  | (b, v) :: l, i => if a = b then some (i, v) else ixK K a l (i + 1)
end pure

/-- Keys of this type are found. -/
class KeyT (P : Program) (t : TypeId) (K : outParam KT) : Prop where
  check : ∀ e a w, (Instr.checkKey e 10000 t (K.enc a)).run P w = .ok () w
  find : ∀ a (es : List MapEntry) (l : List (K.α × Value)) w, es.map (fun e => (e.key, e.val)) = l.map (fun x => (K.enc x.1, x.2)) → (Instr.findKey t (K.enc a) es).run P w = .ok (ixK K a l 0) w
  bits : ∀ a, Instr.sameBits 10000 (K.enc a) (K.enc a) = true

theorem findNow_eq {d : TypeDesc} {K : KT} (hs : ∀ a b, Instr.sameNow d (K.enc a) (K.enc b) = some (decide (a = b))) (a : K.α) : ∀ (es : List MapEntry) (l : List (K.α × Value)) (i : Nat), es.map (fun e => (e.key, e.val)) = l.map (fun x => (K.enc x.1, x.2)) →
    Instr.findNow d (K.enc a) es i = some (ixK K a l i)
  | [], [], _, _ => rfl
  | [], _ :: _, _, h => by cases h
  | _ :: _, [], _, h => by cases h
  | e :: es, (b, v) :: l, i, h => by
    simp only [List.map_cons, List.cons.injEq, Prod.mk.injEq] at h
    obtain ⟨⟨h1, h2⟩, h3⟩ := h
    unfold Instr.findNow ixK
    rw [h1, hs a b]
    by_cases hab : a = b
    · simp [hab, h2]
    · simp only [hab, decide_false, if_false]
      exact findNow_eq hs a es l (i + 1) h3

theorem keyT_str {P : Program} {t : TypeId} (h : P.underlying t = some .string) : KeyT P t KStr where
  check e a w := MapKept.run_checkKey h (k := .string a) trivial e 9999
  find a es l w he := MapKept.run_findKey h (findNow_eq (K := KStr) (fun a b => by
    show some (a == b) = _
    congr 1
    by_cases hab : a = b
    · subst hab
      rw [decide_eq_true rfl]
      show (a.data == a.data) = true
      exact beq_self_eq_true _
    · have : ¬ a.data = b.data := fun e => hab (ByteArray.ext e)
      rw [decide_eq_false hab]
      show (a.data == b.data) = false
      exact beq_eq_false_iff_ne.2 this) a es l 0 he)
  bits a := by
    show (a.data == a.data) = true
    exact beq_self_eq_true _

theorem keyT_int {P : Program} {t : TypeId} {k : IntKind} (h : P.underlying t = some (.int k)) : KeyT P t (KInt k) where
  check e a w := MapKept.run_checkKey h (k := .int k a) rfl e 9999
  find a es l w he := MapKept.run_findKey h (findNow_eq (K := KInt k) (fun a b => by
    show (if k = k then some (a == b) else none) = _
    rw [if_pos rfl]
    congr 1) a es l 0 he)
  bits a := by
    show (k == k && a == a) = true
    simp

/-! ### What a map's block holds -/
structure MOK (K : KT) (es : List MapEntry) (clock : Nat) (l : List (K.α × Value)) : Prop where
  kv : es.map (fun e => (e.key, e.val)) = l.map (fun x => (K.enc x.1, x.2))
  nd : (l.map (·.1)).Nodup
  bnd : (es.map (·.born)).Nodup
  lt : ∀ e ∈ es, e.born < clock

def mapK (K : KT) (m : Nat) (l : List (K.α × Value)) : HProp := fun h => ∃ es clock, h m = some (.map es clock) ∧ MOK K es.toList clock l

section pure2
variable {K : KT}
theorem ixK_shift (a : K.α) : ∀ (l : List (K.α × Value)) (i : Nat), ixK K a l i = (ixK K a l 0).map fun x => (x.1 + i, x.2)
  | [], _ => rfl
  | (b, v) :: l, i => by
    unfold ixK
    split
    · simp
    · rw [ixK_shift a l (i + 1), ixK_shift a l (0 + 1)]
      cases ixK K a l 0 with
      | none => rfl
      | some x => simp; omega
theorem getK_ix (a : K.α) : ∀ (l : List (K.α × Value)) (i : Nat), (ixK K a l i).map (·.2) = getK K a l
  | [], _ => rfl
  | (b, v) :: l, i => by
    unfold ixK getK
    split
    · rfl
    · exact getK_ix a l (i + 1)

theorem put_ix {a : K.α} {v : Value} : ∀ {l : List (K.α × Value)} {i : Nat} {u : Value}, ixK K a l 0 = some (i, u) → putK K a v l = l.modify i (fun _ => (a, v)) ∧ ∃ x, l[i]? = some x ∧ x.1 = a
  | [], _, _, h => by cases h
  | (b, w) :: l, i, u, h => by
    unfold ixK at h
    unfold putK
    by_cases hab : a = b
    · rw [if_pos hab] at h ⊢
      cases h
      exact ⟨rfl, _, rfl, hab.symm⟩
    · rw [if_neg hab] at h ⊢
      rw [ixK_shift] at h
      cases hx : ixK K a l 0 with
      | none => rw [hx] at h; cases h
      | some x =>
        rw [hx] at h
        simp only [Option.map_some, Option.some.injEq, Prod.mk.injEq] at h
        obtain ⟨h1, h2⟩ := put_ix (v := v) hx
        obtain ⟨rfl, rfl⟩ := h
        exact ⟨by rw [h1]; rfl, h2⟩
theorem put_none {a : K.α} {v : Value} : ∀ {l : List (K.α × Value)}, ixK K a l 0 = none → putK K a v l = l ++ [(a, v)] ∧ a ∉ l.map (·.1)
  | [], _ => ⟨rfl, by simp⟩
  | (b, w) :: l, h => by
    unfold ixK at h
    unfold putK
    by_cases hab : a = b
    · rw [if_pos hab] at h; cases h
    · rw [if_neg hab] at h ⊢
      rw [ixK_shift] at h
      have hx : ixK K a l 0 = none := by
        cases hx : ixK K a l 0 with
        | none => rfl
        | some x => rw [hx] at h; cases h
      obtain ⟨h1, h2⟩ := put_none (v := v) hx
      exact ⟨by rw [h1]; rfl, by simp [hab]; simpa using h2⟩
theorem del_ix {a : K.α} : ∀ {l : List (K.α × Value)} {i : Nat} {u : Value}, ixK K a l 0 = some (i, u) → delK K a l = l.eraseIdx i
  | [], _, _, h => by cases h
  | (b, w) :: l, i, u, h => by
    unfold ixK at h
    unfold delK
    by_cases hab : a = b
    · rw [if_pos hab] at h ⊢
      cases h
      rfl
    · rw [if_neg hab] at h ⊢
      rw [ixK_shift] at h
      cases hx : ixK K a l 0 with
      | none => rw [hx] at h; cases h
      | some x =>
        rw [hx] at h
        simp only [Option.map_some, Option.some.injEq, Prod.mk.injEq] at h
        obtain ⟨rfl, rfl⟩ := h
        rw [del_ix hx]; rfl
theorem del_none {a : K.α} : ∀ {l : List (K.α × Value)}, ixK K a l 0 = none → delK K a l = l
  | [], _ => rfl
  | (b, w) :: l, h => by
    unfold ixK at h
    unfold delK
    by_cases hab : a = b
    · rw [if_pos hab] at h; cases h
    · rw [if_neg hab] at h ⊢
      rw [ixK_shift] at h
      have hx : ixK K a l 0 = none := by
        cases hx : ixK K a l 0 with
        | none => rfl
        | some x => rw [hx] at h; cases h
      rw [del_none hx]

theorem modify_map {α β : Type} {f : α → β} {g : α → α} {g' : β → β} (hg : ∀ x, f (g x) = g' (f x)) : ∀ (l : List α) (i : Nat), (l.modify i g).map f = (l.map f).modify i g'
  | [], i => by cases i <;> rfl
  | x :: l, 0 => by simp [hg]
  | x :: l, i + 1 => by simp [modify_map hg l i]
theorem mem_modify_id {α : Type} {β : Type} {g : α → α} {f : α → β} (hg : ∀ x, f (g x) = f x) : ∀ (l : List α) (i : Nat) (y : α), y ∈ l.modify i g → ∃ x ∈ l, f x = f y
  | [], i, y, h => by cases i <;> simp at h
  | x :: l, 0, y, h => by
    simp only [List.modify_zero_cons, List.mem_cons] at h
    rcases h with rfl | h
    · exact ⟨x, by simp, (hg x).symm⟩
    · exact ⟨y, by simp [h], rfl⟩
  | x :: l, i + 1, y, h => by
    simp only [List.modify_succ_cons, List.mem_cons] at h
    rcases h with rfl | h
    · exact ⟨y, by simp, rfl⟩
    · obtain ⟨z, hz, e⟩ := mem_modify_id hg l i y h
      exact ⟨z, by simp [hz], e⟩
theorem modify_self {α : Type} {g : α → α} : ∀ (l : List α) (i : Nat), (∀ x, l[i]? = some x → g x = x) → l.modify i g = l
  | [], i, _ => by cases i <;> rfl
  | x :: l, 0, h => by simp [h x rfl]
  | x :: l, i + 1, h => by simp only [List.modify_succ_cons]; rw [modify_self l i (by simpa using h)]
theorem modify_at {α : Type} {g g' : α → α} : ∀ (l : List α) (i : Nat), (∀ x, l[i]? = some x → g x = g' x) → l.modify i g = l.modify i g'
  | [], i, _ => by cases i <;> rfl
  | x :: l, 0, h => by simp [h x rfl]
  | x :: l, i + 1, h => by simp only [List.modify_succ_cons]; rw [modify_at l i (by simpa using h)]

theorem MOK.put_some {es : List MapEntry} {clock : Nat} {l : List (K.α × Value)} (h : MOK K es clock l) {a : K.α} {v u : Value} {i : Nat} (hi : ixK K a l 0 = some (i, u)) :
    MOK K (es.modify i fun e => { e with key := K.enc a, val := v }) clock (putK K a v l) := by
  obtain ⟨h1, x, hx, hxa⟩ := put_ix (v := v) hi
  refine ⟨?_, ?_, ?_, ?_⟩
  · rw [modify_map (f := fun e : MapEntry => (e.key, e.val)) (g' := fun _ => (K.enc a, v)) (fun _ => rfl), h.kv, h1, modify_map (f := fun x : K.α × Value => (K.enc x.1, x.2)) (g' := fun _ => (K.enc a, v)) (fun _ => rfl)]
  · rw [h1, modify_map (f := fun x : K.α × Value => x.1) (g' := fun _ => a) (fun _ => rfl), modify_self]
    · exact h.nd
    · intro y hy
      rw [List.getElem?_map, hx] at hy
      simp only [Option.map_some, Option.some.injEq] at hy
      rw [← hy, hxa]
  · rw [modify_map (f := fun e : MapEntry => e.born) (g := fun e => { e with key := K.enc a, val := v }) (g' := id) (fun _ => rfl), modify_self (g := id) _ _ (fun _ _ => rfl)]
    exact h.bnd
  · intro e he
    obtain ⟨z, hz, e2⟩ := mem_modify_id (f := fun e : MapEntry => e.born) (g := fun e => { e with key := K.enc a, val := v }) (fun _ => rfl) es i e he
    have := h.lt z hz
    rw [e2] at this; exact this
theorem MOK.put_none {es : List MapEntry} {clock : Nat} {l : List (K.α × Value)} (h : MOK K es clock l) {a : K.α} {v : Value} (hi : ixK K a l 0 = none) :
    MOK K (es ++ [{ key := K.enc a, val := v, born := clock }]) (clock + 1) (putK K a v l) := by
  obtain ⟨h1, h2⟩ := Fx.put_none (v := v) hi
  rw [h1]
  refine ⟨?_, ?_, ?_, ?_⟩
  · rw [List.map_append, List.map_append, h.kv]; rfl
  · rw [List.map_append]
    refine List.nodup_append.2 ⟨h.nd, by simp, ?_⟩
    intro x hx y hy e
    simp only [List.map_cons, List.map_nil, List.mem_singleton] at hy
    subst hy e
    exact h2 hx
  · rw [List.map_append]
    refine List.nodup_append.2 ⟨h.bnd, by simp, ?_⟩
    intro x hx y hy e
    simp only [List.map_cons, List.map_nil, List.mem_singleton] at hy
    subst hy e
    obtain ⟨z, hz, hzb⟩ := List.mem_map.1 hx
    have := h.lt z hz
    omega
  · intro e he
    rcases List.mem_append.1 he with he | he
    · have := h.lt e he; omega
    · simp only [List.mem_singleton] at he; subst he; exact Nat.lt_succ_self _
theorem map_eraseIdx {α β : Type} {f : α → β} : ∀ (l : List α) (i : Nat), (l.eraseIdx i).map f = (l.map f).eraseIdx i
  | [], i => by cases i <;> rfl
  | x :: l, 0 => rfl
  | x :: l, i + 1 => by simp [map_eraseIdx l i]
theorem MOK.del {es : List MapEntry} {clock : Nat} {l : List (K.α × Value)} (h : MOK K es clock l) {a : K.α} {u : Value} {i : Nat} (hi : ixK K a l 0 = some (i, u)) :
    MOK K (es.eraseIdx i) clock (delK K a l) := by
  rw [del_ix hi]
  refine ⟨?_, ?_, ?_, ?_⟩
  · rw [map_eraseIdx, map_eraseIdx, h.kv]
  · exact h.nd.sublist ((List.eraseIdx_sublist l i).map _)
  · exact h.bnd.sublist ((List.eraseIdx_sublist es i).map _)
  · exact fun e he => h.lt e ((List.eraseIdx_sublist es i).mem he)
end pure2

section
variable {X : Cx} {ops : Array Oper} {nb : List Nat} {N : Act → World → Prop} {i : Nat} {os : List Oper} {Ls : List HProp} {ds : List Deferred} {ρ : Regs} {L : List HProp} {ty : TypeId} {d : Nat}

/-- What is read of a map. -/
def mview (K : KT) (m : Nat) (l : List (K.α × Value)) (h : Frag) : Prop := ∃ es clock, h m = some (.map es clock) ∧ MOK K es.toList clock l
inductive MpIn (K : KT) (m : Nat) (l : List (K.α × Value)) : List HProp → Prop
  | here {H : HProp} {L : List HProp} (h : ∀ h, H h → mview K m l h) : MpIn K m l (H :: L)
  | there {H : HProp} {L : List HProp} (h : MpIn K m l L) : MpIn K m l (H :: L)
theorem MpIn.satL {K : KT} {m : Nat} {l : List (K.α × Value)} {L : List HProp} (r : MpIn K m l L) : ∀ {h : Frag}, SatL L h → mview K m l h := by
  induction r with
  | here hr =>
    rintro h ⟨h1, _, _, l1, _, hA, _⟩
    obtain ⟨es, clock, e, k⟩ := hr _ hA
    exact ⟨es, clock, l1 _ _ e, k⟩
  | there _ ih => exact fun s => ih s.tail

def lookOf (ok : Bool) (z : Value) (o : Option Value) : Value := if ok then .tuple #[o.getD z, .bool o.isSome] else o.getD z

theorem a_lookup {mt kt et : Nat} {z : Value} {K : KT} [I : Mp X.P mt kt et] [J : KeyT X.P kt K] [Z : Zr X.P et z] {x y : Operand} {m : Nat} {a : K.α} {l : List (K.α × Value)} {ok : Bool} {o : Option Value} {v : Value}
    (hx : ev ρ x = .map (some m)) (hy : ev ρ y = K.enc a) (hm : MpIn K m l Ls) (ho : getK K a l = o) (hv : lookOf ok z o = v) (hd : Nat.blt d X.nt = true) (h : OpsL X ops nb N (i + 1) os Ls ds (upd ρ d v) L) :
    Op1 X ops nb N i (some d) (.lookup mt x y ok) ty os Ls ds ρ L := by
  subst hv ho
  refine op_quiet (fun _ e => by cases e) (fun _ _ _ => by simp [qk]) (fun x hx => by cases hx; exact hd) ?_ h
  intro pos after gd w hw
  have hs := hw.resolve_left (by simp [qk])
  obtain ⟨es, clock, hb', hk⟩ := hm.satL hs.heap
  have hb : w.heap[m]? = some (.map es clock) := hb'
  simp only [execOp, hx, hy, Instr.lookup, Sem.run_bind, run_underlying_of I.und, Result.andThen_ok, MapKept.run_getObj_map (P := X.P) hb, Sem.run_pure, J.check, J.find a es.toList l w hk.kv]
  rw [← getK_ix a l 0]
  cases ixK K a l 0 with
  | some x => cases ok <;> rfl
  | none => simp only [Sem.run_bind, Z.run_zero, Result.andThen_ok, Sem.run_pure]; cases ok <;> rfl

/-- A look-up in no map. -/
theorem a_lookup_nil {mt kt et : Nat} {z : Value} {K : KT} [I : Mp X.P mt kt et] [J : KeyT X.P kt K] [Z : Zr X.P et z] {x y : Operand} {a : K.α} {ok : Bool} {v : Value}
    (hx : ev ρ x = .map none) (hy : ev ρ y = K.enc a) (hv : lookOf ok z none = v) (hd : Nat.blt d X.nt = true) (h : OpsL X ops nb N (i + 1) os Ls ds (upd ρ d v) L) :
    Op1 X ops nb N i (some d) (.lookup mt x y ok) ty os Ls ds ρ L := by
  subst hv
  refine op_quiet (fun _ e => by cases e) (fun _ _ _ => by simp [qk]) (fun x hx => by cases hx; exact hd) ?_ h
  intro pos after gd w hw
  simp only [execOp, hx, hy, Instr.lookup, Sem.run_bind, run_underlying_of I.und, Result.andThen_ok, Sem.run_pure, J.check, J.find a [] [] w rfl, ixK]
  simp only [Sem.run_bind, Z.run_zero, Result.andThen_ok, Sem.run_pure]; cases ok <;> rfl

theorem Sats.mapObj {w0 w : World} {K : KT} {m : Nat} {l : List (K.α × Value)} {L : List HProp} (s : Sats w0 w (mapK K m l :: L)) : ∃ es clock, w.heap[m]? = some (.map es clock) ∧ MOK K es.toList clock l ∧
    ∀ es' clock' l', MOK K es'.toList clock' l' → Sats w0 { w with heap := w.heap.setIfInBounds m (.map es' clock') } (mapK K m l' :: L) := by
  obtain ⟨h1, h2, ha, l1, l2, ⟨es, clock, e, k⟩, hL⟩ := s.heap
  refine ⟨es, clock, l1 _ _ e, k, fun es' clock' l' k' => ?_⟩
  have s' : Sats w0 w (pts m (.map es clock) :: L) := ⟨s.os, s.tape, s.output, s.size, ⟨h1, h2, ha, l1, l2, e, hL⟩⟩
  exact (s'.setObj (.map es' clock')).map fun _ hh => hh.headMono fun _ hp => ⟨es', clock', hp, k'⟩

theorem e_mapUpdate {mt kt et : Nat} {K : KT} [I : Mp X.P mt kt et] [J : KeyT X.P kt K] {x y z : Operand} {m : Nat} {a : K.α} {l : List (K.α × Value)} {v : Value} {R : List HProp} {d : Option Nat}
    (hx : ev ρ x = .map (some m)) (hy : ev ρ y = K.enc a) (hz : ev ρ z = v) (hsel : Sel L (mapK K m l) R) :
    Eff X d (.mapUpdate mt x y z) ty ρ L Unit (fun _ => True) (fun _ => undef) (fun _ => mapK K m (putK K a v l) :: R) := by
  subst hz
  refine eff_intro1 (fun _ e => by cases e) (fun _ _ _ => rfl) fun pos after gd w hs => ?_
  obtain ⟨es, clock, hb, hk, hset⟩ := (hs.sel hsel).mapObj
  unfold OpVal
  simp only [execOp, hx, hy, Instr.mapUpdate, Sem.run_bind, run_underlying_of I.und, Result.andThen_ok, MapKept.run_getObj_map (P := X.P) hb, J.check, J.find a es.toList l w hk.kv]
  cases hix : ixK K a l 0 with
  | none =>
    have hk2 := hk.put_none (v := ev ρ z) hix
    simp only [MapKept.run_setObj_map (P := X.P) _ hb, Sem.run_bind, Result.andThen_ok, Sem.run_pure]
    exact ⟨trivial, hset _ _ _ (by simpa using hk2)⟩
  | some x =>
    obtain ⟨i', u⟩ := x
    obtain ⟨_, b, hbx, hba⟩ := put_ix (v := ev ρ z) hix
    have hk2 := hk.put_some (v := ev ρ z) hix
    have he : ((es[i']?).map (·.key)).getD (K.enc a) = K.enc a := by
      have h1 : (es.toList.map (fun e => (e.key, e.val)))[i']? = (l.map (fun x => (K.enc x.1, x.2)))[i']? := by rw [hk.kv]
      simp only [List.getElem?_map, hbx, Option.map_some] at h1
      rw [Array.getElem?_toList] at h1
      cases hi' : es[i']? with
      | none => rw [hi'] at h1; cases h1
      | some e =>
        rw [hi'] at h1
        simp only [Option.map_some, Option.some.injEq, Prod.mk.injEq] at h1
        simp [h1.1, hba]
    simp only [Instr.keyThatStays, he, J.bits, if_true, Sem.run_bind, Sem.run_pure, Result.andThen_ok, MapKept.run_setObj_map (P := X.P) _ hb]
    exact ⟨trivial, hset _ _ _ (by simpa using hk2)⟩

theorem e_delete {mt kt et kt' : Nat} {K : KT} [I : Mp X.P mt kt et] [J : KeyT X.P kt K] {x y : Operand} {m : Nat} {a : K.α} {l : List (K.α × Value)} {R : List HProp} {d : Option Nat}
    (hx : ev ρ x = .map (some m)) (hy : ev ρ y = K.enc a) (hsel : Sel L (mapK K m l) R) :
    Eff X d (.call { callee := .builtin .delete, args := #[x, y], argTypes := #[mt, kt'] }) ty ρ L Unit (fun _ => True) (fun _ => .tuple #[]) (fun _ => mapK K m (delK K a l) :: R) := by
  refine eff_intro1 (fun _ e => by cases e) (fun _ _ _ => rfl) fun pos after gd w hs => ?_
  obtain ⟨es, clock, hb, hk, hset⟩ := (hs.sel hsel).mapObj
  have hop : execOp (ev ρ) ⟨d, .call { callee := .builtin .delete, args := #[x, y], argTypes := #[mt, kt'] }, ty, pos, after, gd⟩ = (do pure (.value (← Builtin.delete_ #[mt, kt'] ty #[.map (some m), K.enc a]))) := by
    simp [execOp, resolve, invoke, builtin, hx, hy]
  unfold OpVal
  rw [hop]
  simp only [Builtin.delete_, Sem.run_bind, run_underlying_of I.und, Result.andThen_ok, MapKept.run_getObj_map (P := X.P) hb, J.check, J.find a es.toList l w hk.kv, List.getElem?_toArray, List.getElem?_cons_zero, List.getElem?_cons_succ]
  cases hix : ixK K a l 0 with
  | none =>
    rw [del_none hix]
    simp only [MapKept.run_setObj_map (P := X.P) _ hb, Sem.run_bind, Result.andThen_ok, Sem.run_pure]
    exact ⟨trivial, hset _ _ _ hk⟩
  | some x =>
    obtain ⟨i', u⟩ := x
    have hk2 := hk.del hix
    simp only [MapKept.run_setObj_map (P := X.P) _ hb, Sem.run_bind, Result.andThen_ok, Sem.run_pure]
    refine ⟨trivial, hset _ _ _ ?_⟩
    have : (es.eraseIdxIfInBounds i').toList = es.toList.eraseIdx i' := by
      unfold Array.eraseIdxIfInBounds
      split
      · simp
      · rename_i hlt
        rw [List.eraseIdx_of_length_le]; simpa using hlt
    rw [this]; exact hk2

theorem e_makeMap {mt kt et : Nat} (K : KT) [I : Mp X.P mt kt et] [J : KeyT X.P kt K] {d : Nat} :
    Eff X (some d) (.makeMap mt none) ty ρ L Nat (fun _ => True) (fun b => .map (some b)) (fun b => mapK K b [] :: L) := by
  refine ⟨(fun _ e => by cases e), fun pos after gd => ⟨rfl, fun w hs => ?_⟩⟩
  unfold OpVal
  simp only [execOp, Instr.makeMap, Option.map_none, Sem.run_bind, run_newObj, Sem.run_pure, Result.andThen_ok]
  refine ⟨w.heap.size, trivial, rfl, (hs.alloc (.map #[] 0)).map fun _ hh => hh.headMono fun _ hp => ⟨#[], 0, hp, ⟨rfl, by simp, by simp, by simp⟩⟩⟩

theorem s_mapUpdate {mt kt et : Nat} {K : KT} [I : Mp X.P mt kt et] [J : KeyT X.P kt K] {x y z : Operand} {m : Nat} {a : K.α} {l : List (K.α × Value)} {v : Value} {R : List HProp}
    (hx : ev ρ x = .map (some m)) (hy : ev ρ y = K.enc a) (hz : ev ρ z = v) (hsel : Sel L (mapK K m l) R) (hb : nb.contains i = false)
    (h : OpsL X ops nb N (i + 1) os (mapK K m (putK K a v l) :: R) ds ρ (mapK K m (putK K a v l) :: R)) : Op1 X ops nb N i none (.mapUpdate mt x y z) ty os Ls ds ρ L :=
  op_eff (e_mapUpdate hx hy hz hsel) (fun _ e => by cases e) hb fun _ _ => h
theorem s_delete {mt kt et kt' : Nat} {K : KT} [I : Mp X.P mt kt et] [J : KeyT X.P kt K] {x y : Operand} {m : Nat} {a : K.α} {l : List (K.α × Value)} {R : List HProp}
    (hx : ev ρ x = .map (some m)) (hy : ev ρ y = K.enc a) (hsel : Sel L (mapK K m l) R) (hb : nb.contains i = false)
    (h : OpsL X ops nb N (i + 1) os (mapK K m (delK K a l) :: R) ds ρ (mapK K m (delK K a l) :: R)) : Op1 X ops nb N i none (.call { callee := .builtin .delete, args := #[x, y], argTypes := #[mt, kt'] }) ty os Ls ds ρ L :=
  op_eff (e_delete hx hy hsel) (fun _ e => by cases e) hb fun _ _ => h
theorem s_makeMap {mt kt et : Nat} {K : KT} [I : Mp X.P mt kt et] [J : KeyT X.P kt K] (hd : Nat.blt d X.nt = true) (hb : nb.contains i = false)
    (h : ∀ b, OpsL X ops nb N (i + 1) os (mapK K b [] :: L) ds (upd ρ d (.map (some b))) (mapK K b [] :: L)) : Op1 X ops nb N i (some d) (.makeMap mt none) ty os Ls ds ρ L :=
  op_eff (e_makeMap K) (fun _ e => by cases e; exact hd) hb fun b _ => h b

theorem a_len_map {T k e : Nat} {K : KT} [I : Mp X.P T k e] {x : Operand} {m : Nat} {l : List (K.α × Value)} (hx : ev ρ x = .map (some m)) (hr : MpIn K m l Ls) (hd : Nat.blt d X.nt = true)
    (h : OpsL X ops nb N (i + 1) os Ls ds (upd ρ d (.int .i64 l.length)) L) : Op1 X ops nb N i (some d) (.call { callee := .builtin .len, args := #[x], argTypes := #[T] }) ty os Ls ds ρ L := by
  refine op_quiet (fun _ e => by cases e) (fun _ _ _ => by simp [qk]) (fun x hx => by cases hx; assumption) ?_ h
  intro pos after gd w hw
  have hs := hw.resolve_left (by simp [qk])
  obtain ⟨es, clock, hb', hk⟩ := hr.satL hs.heap
  have hb : w.heap[m]? = some (.map es clock) := hb'
  have hl : es.size = l.length := by have := congrArg List.length hk.kv; simpa using this
  simp [execOp, resolve, invoke, builtin, hx, Builtin.len_, run_underlying_of I.und, goInt, MapKept.run_getObj_map (P := X.P) hb, hl]
end
end Go.Fx
