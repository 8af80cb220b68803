/- Runs, in plain Lean: their bytes; where each pair stands. -/
import Derived.Test.YtgmobpngcilgjaaFrR
import Derived.Test.YtgmobpngcilgjaaMnS
set_option linter.unusedVariables false
namespace Go.Proofs.Ytgmobpngcilgjaa
open Go Go.Fx Go.Pl

/-- May a pair be? -/
def okP (p : Pr) : Bool := decide (1 ≤ p.k.size) && decide (p.k.size ≤ 512) && decide (p.v.size ≤ 262144) && (!p.g || p.v.toList == [])
theorem okP_k {p : Pr} (h : okP p = true) : 1 ≤ p.k.size ∧ p.k.size ≤ 512 ∧ p.v.size ≤ 262144 := by
  simp only [okP, Bool.and_eq_true, decide_eq_true_eq] at h
  exact ⟨h.1.1.1, h.1.1.2, h.1.2⟩
def put2 (n : Nat) : BA := ⟨(putL n 2).toArray⟩
theorem put2_size (n : Nat) : (put2 n).size = 2 := by show (putL n 2).length = 2; simp [putL]
theorem put2_get (n : Nat) (h : n < 65536) : getL (put2 n).data.toList 2 = (n : Int) := by
  have e := getL_putL n 2 (by omega) (by omega) 2 (Nat.le_refl _)
  rw [show (put2 n).data.toList = putL n 2 from rfl, e, Nat.mod_eq_of_lt (by simpa using h)]
def flagB (g : Bool) : BA := if g then ⟨#[1]⟩ else ⟨#[0]⟩
theorem flagB_size (g : Bool) : (flagB g).size = 1 := by cases g <;> rfl
/-- The text of a pair's frame. -/
def txtR (p : Pr) : BA := flagB p.g ++ put2 p.k.size ++ p.k ++ p.v
theorem txtR_size (p : Pr) : (txtR p).size = 3 + p.k.size + p.v.size := by
  unfold txtR
  simp only [ByteArray.size_append, flagB_size, put2_size]
theorem txtR_0 (p : Pr) : (txtR p).data.toList[0]? = some (if p.g then 1 else 0) := by
  have e : (txtR p).data.toList = bl (flagB p.g) ++ (bl (put2 p.k.size) ++ (bl p.k ++ bl p.v)) := by
    show bl (txtR p) = _
    unfold txtR
    rw [bl_app, bl_app, bl_app, List.append_assoc, List.append_assoc]
  rw [e]
  cases p.g <;> rfl
theorem txtR_n (p : Pr) : (txtR p).extract 1 3 = put2 p.k.size := by
  unfold txtR
  rw [ByteArray.append_assoc (a := flagB p.g ++ put2 p.k.size)]
  exact ext_mid _ _ _ (flagB_size p.g).symm (by rw [flagB_size, put2_size])
theorem txtR_k (p : Pr) : (txtR p).extract 3 (3 + p.k.size) = p.k := by
  unfold txtR
  exact ext_mid _ _ _ (by rw [ByteArray.size_append, flagB_size, put2_size]) (by rw [ByteArray.size_append, flagB_size, put2_size])
theorem txtR_v (p : Pr) : (txtR p).extract (3 + p.k.size) (txtR p).size = p.v := by
  rw [txtR_size]
  unfold txtR
  exact ext_right _ _ (by simp only [ByteArray.size_append, flagB_size, put2_size]) (by simp only [ByteArray.size_append, flagB_size, put2_size])
theorem txtR_small {p : Pr} (h : okP p = true) : (txtR p).size ≤ 262659 := by
  have := okP_k h
  rw [txtR_size]; omega

/-- The texts of a run's frames, and its bytes. -/
def runL (l : List Pr) : List BA := put8 (l.length : Int) :: l.map txtR
def runB (l : List Pr) : BA := framesOf (runL l)
theorem runL_ok {l : List Pr} (h : ∀ p ∈ l, okP p = true) : allOk (runL l) = true := by
  simp only [runL, allOk, List.all_cons, Bool.and_eq_true, decide_eq_true_eq, List.all_eq_true, List.mem_map]
  refine ⟨by rw [put8_size]; decide, ?_⟩
  rintro x ⟨p, hp, rfl⟩
  have := txtR_small (h p hp)
  omega
theorem runB_size (l : List Pr) : (runB l).size = 20 + lenT (l.map txtR) := by
  unfold runB
  rw [framesOf_size]
  simp only [runL, lenT, List.map_cons, List.sum_cons, put8_size]
theorem runB_scan {l : List Pr} (h : ∀ p ∈ l, okP p = true) : scanOf (runB l) = (runL l, (runB l).size, 0) := by
  have := scanOf_frames ⟨#[]⟩ (runL l) (runL_ok h)
  rw [ba_nil, scanOf_nil] at this
  unfold runB
  rw [this, framesOf_size]
  simp

/-- Are keys in order? -/
def riseB : List Pr → Bool
  | [] => true
  | [_] => true
  | p :: q :: l => ltS p.k q.k && riseB (q :: l)
theorem riseB_at : ∀ {l : List Pr} {i : Nat} (h : i + 1 < l.length), riseB l = true → ltS l[i].k l[i + 1].k = true
  | [], i, h, _ => by simp at h
  | [_], i, h, _ => by simp at h
  | p :: q :: l, 0, h, hr => by
    simp only [riseB, Bool.and_eq_true] at hr
    exact hr.1
  | p :: q :: l, i + 1, h, hr => by
    simp only [riseB, Bool.and_eq_true] at hr
    exact riseB_at (l := q :: l) (i := i) (by simpa using h) hr.2
theorem riseB_of : ∀ {l : List Pr}, (∀ i (h : i + 1 < l.length), ltS l[i].k l[i + 1].k = true) → riseB l = true
  | [], _ => rfl
  | [_], _ => rfl
  | p :: q :: l, h => by
    simp only [riseB, Bool.and_eq_true]
    exact ⟨h 0 (by simp), riseB_of fun i hi => h (i + 1) (by simpa using hi)⟩
theorem rise_sorted : ∀ {l : List Pr}, riseB l = true → Sorted l
  | [], _ => by simp [Sorted]
  | [_], _ => by simp [Sorted]
  | p :: q :: l, h => by
    simp only [riseB, Bool.and_eq_true] at h
    have ih := rise_sorted h.2
    refine List.pairwise_cons.2 ⟨fun x hx => ?_, ih⟩
    rcases List.mem_cons.1 hx with rfl | hx
    · exact h.1
    · exact ltS_trans h.1 ((List.pairwise_cons.1 ih).1 x hx)
theorem sorted_rise : ∀ {l : List Pr}, Sorted l → riseB l = true
  | [], _ => rfl
  | [_], _ => rfl
  | p :: q :: l, h => by
    have h' := List.pairwise_cons.1 h
    simp only [riseB, Bool.and_eq_true]
    exact ⟨h'.1 q (List.mem_cons_self ..), sorted_rise h'.2⟩
/-- What check answers. -/
def chkR (l : List Pr) : Int := if l.all okP then (if riseB l then 0 else 100) else 2

/-- Entries: each pair, where its frame begins, how many bytes it has. -/
structure En where
  p : Pr
  at_ : Nat
  sz : Nat
def entsF (at_ : Nat) : List Pr → List En
  | [] => []
  | p :: l => ⟨p, at_, 12 + (txtR p).size⟩ :: entsF (at_ + (12 + (txtR p).size)) l
def ents (l : List Pr) : List En := entsF 20 l
theorem entsF_p : ∀ (l : List Pr) (a : Nat), (entsF a l).map (·.p) = l
  | [], _ => rfl
  | p :: l, a => by simp [entsF, entsF_p l]
theorem entsF_len (l : List Pr) (a : Nat) : (entsF a l).length = l.length := by
  have := congrArg List.length (entsF_p l a); simpa using this
theorem entsF_snoc : ∀ (l : List Pr) (p : Pr) (a : Nat), entsF a (l ++ [p]) = entsF a l ++ [⟨p, a + lenT (l.map txtR), 12 + (txtR p).size⟩]
  | [], p, a => by simp [entsF, lenT]
  | q :: l, p, a => by
    simp only [List.cons_append, entsF, entsF_snoc l p, List.map_cons, lenT, List.sum_cons, List.cons_append]
    congr 4
    omega
theorem entsF_get : ∀ (l : List Pr) (a i : Nat) (h : i < l.length), (entsF a l)[i]? = some ⟨l[i], a + lenT ((l.take i).map txtR), 12 + (txtR l[i]).size⟩
  | [], _, i, h => by simp at h
  | p :: l, a, 0, h => by simp [entsF, lenT]
  | p :: l, a, i + 1, h => by
    have ih := entsF_get l (a + (12 + (txtR p).size)) i (by simpa using h)
    simp only [entsF, List.getElem?_cons_succ, ih, List.getElem_cons_succ, List.take_succ_cons, List.map_cons, lenT, List.sum_cons]
    congr 2
    omega
end Go.Proofs.Ytgmobpngcilgjaa
