/- Texts merged: TqN TqP TqQ TqR. -/
import Derived.Test.YtadgdikijdmceaaGreatG13
import Derived.Test.YtadgdikijdmceaaGreatG9
import Derived.Test.YtadgdikijdmceaaGreatG17
import Derived.Test.YtadgdikijdmceaaGreatRfP
set_option linter.unusedSimpArgs false
set_option linter.unusedVariables false
namespace Go.Proofs.YtadgdikijdmceaaGreat
open Go Go.Fx Go.Pl

def hx8 (d : Nat) : UInt8 := UInt8.ofNat (hexC d).toNat
theorem hx8_lt : ∀ d < 16, ∀ e < 16, d < e → hx8 d < hx8 e := by decide
theorem unD_hx8 : ∀ d < 16, unD (hx8 d) = some d := by decide
theorem mayC_hx8 : ∀ d < 16, mayC (hx8 d) = true := by decide
def hexL (v n : Nat) : List UInt8 := (hexR v n n).map fun c => UInt8.ofNat c.toNat
theorem hexS_list (v n : Nat) : (hexS v n).data.toList = hexL v n := by unfold hexS hexL; simp
theorem hexL_succ (v n : Nat) : hexL v (n + 1) = hx8 (v / 16 ^ n % 16) :: hexL v n := by
  unfold hexL hexR
  rw [List.range_succ_eq_map, List.map_cons, List.map_cons, List.map_map]
  congr 1
  rw [List.map_map]
  rw [List.map_map]
  apply List.map_congr_left
  intro i hi
  show UInt8.ofNat (hexC (digN v (n + 1) (i + 1))).toNat = UInt8.ofNat (hexC (digN v n i)).toNat
  unfold digN
  have : n + 1 - 1 - (i + 1) = n - 1 - i := by omega
  rw [this]
theorem hexL_lt : ∀ (n a b : Nat), a % 16 ^ n < b % 16 ^ n → hexL a n < hexL b n
  | 0, a, b, h => by simp [Nat.mod_one] at h
  | n + 1, a, b, h => by
    rw [hexL_succ, hexL_succ, List.cons_lt_cons_iff]
    rw [Nat.mod_pow_succ, Nat.mod_pow_succ] at h
    have h1 : a / 16 ^ n % 16 < 16 := Nat.mod_lt _ (by decide)
    have h2 : b / 16 ^ n % 16 < 16 := Nat.mod_lt _ (by decide)
    have hp : 0 < 16 ^ n := Nat.pow_pos (by decide)
    have h3 := Nat.mod_lt a hp
    have h4 := Nat.mod_lt b hp
    rcases Nat.lt_trichotomy (a / 16 ^ n % 16) (b / 16 ^ n % 16) with hq | hq | hq
    · exact .inl (hx8_lt _ h1 _ h2 hq)
    · rw [hq] at h ⊢
      exact .inr ⟨rfl, hexL_lt n a b (by omega)⟩
    · exfalso
      have h5 : 16 ^ n * (b / 16 ^ n % 16) + 16 ^ n ≤ 16 ^ n * (a / 16 ^ n % 16) := by
        have := Nat.mul_le_mul_left (16 ^ n) (show b / 16 ^ n % 16 + 1 ≤ a / 16 ^ n % 16 from hq)
        rw [Nat.mul_add, Nat.mul_one] at this
        exact this
      omega
theorem unL_hexL : ∀ (n v acc : Nat), unL (hexL v n) acc = some (acc * 16 ^ n + v % 16 ^ n)
  | 0, v, acc => by simp [hexL, hexR, unL, Nat.mod_one]
  | n + 1, v, acc => by
    rw [hexL_succ, unL, unD_hx8 _ (Nat.mod_lt _ (by decide))]
    dsimp only
    rw [unL_hexL n v, Nat.mod_pow_succ, Nat.pow_succ, Nat.add_mul, Nat.mul_assoc, Nat.mul_comm 16, Nat.mul_comm (v / 16 ^ n % 16)]
    congr 1
    omega
theorem p12 : (16 : Nat) ^ 12 = 281474976710656 := by decide
theorem unhexS_hexS (v : Nat) (h : v < 281474976710656) : unhexS (hexS v 12) = some v := by
  unfold unhexS
  rw [hexS_size, if_pos ⟨by decide, by decide⟩, hexS_list, unL_hexL, p12, Nat.mod_eq_of_lt h]
  simp
theorem fileT_size (name : BA) (n : Nat) : (fileT name n).size = name.size + 13 := by
  unfold fileT
  rw [ByteArray.size_append, ByteArray.size_append, hexS_size]
  show name.size + 1 + 12 = _
  omega
theorem fileT_list (name : BA) (n : Nat) : (fileT name n).data.toList = name.data.toList ++ 46 :: hexL n 12 := by
  unfold fileT
  rw [ByteArray.data_append, ByteArray.data_append, Array.toList_append, Array.toList_append, hexS_list, List.append_assoc]
  rfl
theorem fileT_lt (name : BA) {a b : Nat} (hb : b < 281474976710656) (h : a < b) : (fileT name a).data.toList < (fileT name b).data.toList := by
  rw [fileT_list, fileT_list]
  have h1 : (46 : UInt8) :: hexL a 12 < 46 :: hexL b 12 := by
    rw [List.cons_lt_cons_iff]
    exact .inr ⟨rfl, hexL_lt 12 a b (by rw [p12, Nat.mod_eq_of_lt hb, Nat.mod_eq_of_lt (by omega)]; exact h)⟩
  generalize name.data.toList = l
  induction l with
  | nil => exact h1
  | cons x l ih => rw [List.cons_append, List.cons_append, List.cons_lt_cons_iff]; exact .inr ⟨rfl, ih⟩
theorem cutP_fileT (name : BA) (n : Nat) : cutP (fileT name n) (name ++ dotT) = (hexS n 12, true) := by
  have e1 : (fileT name n).extract 0 (name ++ dotT).size = name ++ dotT := ext_left _ _ rfl
  have e2 : (fileT name n).extract (name ++ dotT).size (fileT name n).size = hexS n 12 := by
    refine ext_right _ _ rfl ?_
    unfold fileT
    rw [ByteArray.size_append]
  have e3 : ((name ++ dotT).size : Int) ≤ ((fileT name n).size : Int) := by
    rw [fileT_size, ByteArray.size_append]
    have : dotT.size = 1 := rfl
    omega
  unfold cutP hasP
  rw [e1, decide_eq_true e3]
  simp only [beq_self_eq_true, Bool.and_self, if_true]
  rw [e2]
theorem fileS_fileT (name : BA) (n : Nat) (h : n < 281474976710656) : fileS name (fileT name n) = some ⟨fileT name n, n, []⟩ := by
  unfold fileS unE
  rw [cutP_fileT]
  dsimp only
  rw [unhexS_hexS n h, hexS_size]
  simp
theorem mayN_fileT (name : BA) (n : Nat) (h : mayN name = true) (hz : name.size ≤ 32) : mayN (fileT name n) = true := by
  unfold mayN at h ⊢
  simp only [Bool.and_eq_true, decide_eq_true_eq] at h ⊢
  rw [fileT_size]
  refine ⟨⟨?_, by omega⟩, by omega⟩
  rw [fileT_list, List.all_append, h.1.1, Bool.true_and, List.all_cons]
  have h1 : mayC 46 = true := by decide
  rw [h1, Bool.true_and, List.all_eq_true]
  have : ∀ k c, c ∈ hexL n k → mayC c = true := by
    intro k
    induction k with
    | zero => intro c hc; simp [hexL, hexR] at hc
    | succ k ih =>
      intro c hc
      rw [hexL_succ] at hc
      rcases List.mem_cons.1 hc with rfl | hc
      · exact mayC_hx8 _ (Nat.mod_lt _ (by decide))
      · exact ih c hc
  exact fun c hc => this 12 c hc
theorem sortN_rise {l m : List BA} (hp : l.Perm m) (hs : m.Pairwise fun a b => a.data.toList < b.data.toList) : sortN l = m := by
  have hsrt : (m.map fun s : BA => s.data.toList).Pairwise fun x y => decide (x ≤ y) = true := by
    rw [List.pairwise_map]
    exact hs.imp fun {x y} hxy => decide_eq_true (List.le_of_lt hxy)
  have hm : (l.map fun s : BA => s.data.toList).mergeSort (fun x y => decide (x ≤ y)) = m.map fun s : BA => s.data.toList := by
    rw [Go.mergeSort_of_perm (hp.map _)]
    exact List.mergeSort_of_pairwise hsrt
  unfold sortN
  rw [hm, List.map_map]
  have : ∀ x ∈ m, ((fun x : List UInt8 => (⟨x.toArray⟩ : BA)) ∘ fun s : BA => s.data.toList) x = x := fun x _ => data_inj (by simp)
  rw [List.map_congr_left this]; simp
end Go.Proofs.YtadgdikijdmceaaGreat
set_option linter.unusedSimpArgs false
set_option linter.unusedVariables false
namespace Go.Proofs.YtadgdikijdmceaaGreat
open Go Go.Fx Go.Pl

def FEq (F G : FS) : Prop := ∀ k, fget k F = fget k G
theorem FEq.refl (F : FS) : FEq F F := fun _ => rfl
theorem FEq.symm {F G : FS} (h : FEq F G) : FEq G F := fun k => (h k).symm
theorem FEq.trans {F G H : FS} (a : FEq F G) (b : FEq G H) : FEq F H := fun k => (a k).trans (b k)
theorem FEq.text {F G : FS} (h : FEq F G) (k : BA) : ftext k F = ftext k G := by unfold ftext; rw [h]
theorem FEq.put {F G : FS} (h : FEq F G) (k v : BA) : FEq (fput k v F) (fput k v G) := fun j => by rw [fget_put, fget_put, h]
theorem FEq.del {F G : FS} (h : FEq F G) (k : BA) (hF : (F.map (·.1)).Nodup) (hG : (G.map (·.1)).Nodup) : FEq (fdel k F) (fdel k G) := fun j => by
  by_cases e : j = k
  · subst e; rw [fget_del_self _ hF, fget_del_self _ hG]
  · rw [fget_del _ _ e, fget_del _ _ e, h]
theorem fget_app (k : BA) (A B : FS) : fget k (A ++ B) = (fget k A).or (fget k B) := by
  induction A with
  | nil => simp [fget]
  | cons x A ih =>
    obtain ⟨b, u⟩ := x
    rw [List.cons_append, fget, fget]
    split
    · rfl
    · exact ih
theorem fput_new {k v : BA} : ∀ {A : FS}, k ∉ A.map (·.1) → fput k v A = A ++ [(k, v)]
  | [], _ => rfl
  | (b, u) :: A, h => by
    simp only [List.map_cons, List.mem_cons, not_or] at h
    rw [fput, if_neg h.1, fput_new h.2, List.cons_append]
theorem fput_end {k v w : BA} : ∀ {A : FS}, k ∉ A.map (·.1) → fput k v (A ++ [(k, w)]) = A ++ [(k, v)]
  | [], _ => by simp [fput]
  | (b, u) :: A, h => by
    simp only [List.map_cons, List.mem_cons, not_or] at h
    rw [List.cons_append, fput, if_neg h.1, fput_end h.2, List.cons_append]
theorem fdel_end {k w : BA} : ∀ {A : FS}, k ∉ A.map (·.1) → fdel k (A ++ [(k, w)]) = A
  | [], _ => by simp [fdel]
  | (b, u) :: A, h => by
    simp only [List.map_cons, List.mem_cons, not_or] at h
    rw [List.cons_append, fdel, if_neg h.1, fdel_end h.2]
theorem fget_end {k w : BA} {A : FS} (h : k ∉ A.map (·.1)) : fget k (A ++ [(k, w)]) = some w := by
  rw [fget_app, fget_notin h]; simp [fget]
theorem mem_keys {k : BA} {F : FS} : k ∈ F.map (·.1) ↔ (fget k F).isSome = true := by
  constructor
  · intro h
    cases e : fget k F with
    | some v => rfl
    | none => exact absurd h (fget_none e)
  · intro h
    cases Classical.em (k ∈ F.map (·.1)) with
    | inl h => exact h
    | inr h' => rw [fget_notin h'] at h; cases h
theorem FEq.perm {F G : FS} (h : FEq F G) (hF : (F.map (·.1)).Nodup) (hG : (G.map (·.1)).Nodup) : (F.map (·.1)).Perm (G.map (·.1)) :=
  (List.perm_ext_iff_of_nodup hF hG).2 fun k => by rw [mem_keys, mem_keys, h]

structure Nm (name : BA) (l : List Sg) : Prop where
  file : ∀ x ∈ l, x.file = fileT name x.first
  lt : ∀ x ∈ l, x.first < 281474976710656
  rise : l.Pairwise fun a b => a.first < b.first
theorem Nm.keys {name : BA} {l : List Sg} (h : Nm name l) : (l.map (·.file)).Pairwise fun a b => a.data.toList < b.data.toList := by
  rw [List.pairwise_map]
  refine List.Pairwise.imp_of_mem ?_ h.rise
  intro a b ha hb hab
  rw [h.file a ha, h.file b hb]
  exact fileT_lt name (h.lt b hb) hab
theorem Nm.nodup {name : BA} {l : List Sg} (h : Nm name l) : (l.map (·.file)).Nodup := h.keys.imp fun {a b} hab e => by
  subst e
  exact List.lt_irrefl _ hab
theorem Nm.files {name : BA} {l : List Sg} (h : Nm name l) : filesT name (l.map (·.file)) = l.map fun x => ⟨x.file, x.first, []⟩ := by
  unfold filesT
  rw [List.filterMap_map]
  have e : ∀ x ∈ l, (fileS name ∘ fun x : Sg => x.file) x = some ⟨x.file, x.first, []⟩ := fun x hx => by
    show fileS name x.file = _
    rw [h.file x hx, fileS_fileT name _ (h.lt x hx)]
  have g : ∀ (m : List Sg), (∀ x ∈ m, (fileS name ∘ fun x : Sg => x.file) x = some ⟨x.file, x.first, []⟩) → m.filterMap (fileS name ∘ fun x : Sg => x.file) = m.map fun x => (⟨x.file, x.first, []⟩ : Sg) := by
    intro m
    induction m with
    | nil => intro _; rfl
    | cons y m ih =>
      intro hm
      rw [List.filterMap_cons, hm y (List.mem_cons_self ..), List.map_cons, ih (fun x hx => hm x (List.mem_cons_of_mem _ hx))]
  exact g l e
def Fl (name : BA) (seg : Nat) : Nat → List Sg → Prop
  | _, [] => True
  | f, x :: l => x.file = fileT name f ∧ x.first = f ∧ x.recs.length = seg ∧ Fl name seg (f + seg) l
theorem Fl.app {name : BA} {seg : Nat} : ∀ {a b : List Sg} {f : Nat}, Fl name seg f (a ++ b) ↔ Fl name seg f a ∧ Fl name seg (f + seg * a.length) b
  | [], b, f => by simp [Fl]
  | x :: a, b, f => by
    have h := Fl.app (name := name) (seg := seg) (a := a) (b := b) (f := f + seg)
    rw [List.cons_append, Fl, Fl, h, List.length_cons, Nat.mul_add, Nat.mul_one]
    rw [show f + seg + seg * a.length = f + (seg * a.length + seg) by omega]
    constructor
    · rintro ⟨h1, h2, h3, h4, h5⟩; exact ⟨⟨h1, h2, h3, h4⟩, h5⟩
    · rintro ⟨⟨h1, h2, h3, h4⟩, h5⟩; exact ⟨h1, h2, h3, h4, h5⟩
theorem Fl.mem {name : BA} {seg : Nat} : ∀ {l : List Sg} {f : Nat}, Fl name seg f l → ∀ x ∈ l, x.file = fileT name x.first ∧ f ≤ x.first ∧ x.first + seg ≤ f + seg * l.length ∧ x.recs.length = seg
  | [], f, _, x, hx => by simp at hx
  | y :: l, f, ⟨h1, h2, h3, h4⟩, x, hx => by
    rw [List.length_cons, Nat.mul_add, Nat.mul_one]
    rcases List.mem_cons.1 hx with rfl | hx
    · exact ⟨by rw [h2]; exact h1, by omega, by omega, h3⟩
    · obtain ⟨a, b, c, d⟩ := Fl.mem h4 x hx
      exact ⟨a, by omega, by omega, d⟩
theorem Fl.rise {name : BA} {seg : Nat} (hs : 1 ≤ seg) : ∀ {l : List Sg} {f : Nat}, Fl name seg f l → l.Pairwise fun a b => a.first < b.first
  | [], f, _ => List.Pairwise.nil
  | y :: l, f, ⟨h1, h2, h3, h4⟩ => List.Pairwise.cons (fun x hx => by have := (Fl.mem h4 x hx).2.1; omega) (Fl.rise hs h4)
structure Sq (name : BA) (seg f : Nat) (l0 : List Sg) (x : Sg) : Prop where
  fl : Fl name seg f l0
  first : x.first = f + seg * l0.length
  file : x.file = fileT name x.first
  le : x.recs.length ≤ seg
  lt : x.first < 281474976710656
theorem Sq.nm {name : BA} {seg f : Nat} {l0 : List Sg} {x : Sg} (h : Sq name seg f l0 x) (hs : 1 ≤ seg) : Nm name (l0 ++ [x]) where
  file y hy := by
    rcases List.mem_append.1 hy with hy | hy
    · exact (h.fl.mem y hy).1
    · rw [List.mem_singleton.1 hy]; exact h.file
  lt y hy := by
    have h1 := h.lt
    have h2 := h.first
    rcases List.mem_append.1 hy with hy | hy
    · have := (h.fl.mem y hy).2.2.1; omega
    · rw [List.mem_singleton.1 hy]; exact h1
  rise := by
    rw [List.pairwise_append]
    refine ⟨h.fl.rise hs, List.pairwise_singleton _ _, fun a ha b hb => ?_⟩
    rw [List.mem_singleton.1 hb]
    have := (h.fl.mem a ha).2.2.1
    have h2 := h.first
    omega
theorem Sq.notin {name : BA} {seg f : Nat} {l0 : List Sg} {x : Sg} (h : Sq name seg f l0 x) (hs : 1 ≤ seg) : x.file ∉ l0.map (·.file) := by
  have h1 := (h.nm hs).nodup
  rw [List.map_append, List.nodup_append] at h1
  intro hx
  exact h1.2.2 _ hx _ (List.mem_singleton.2 rfl) rfl
def fsS (l : List Sg) : FS := l.map fun x => (x.file, framesOf x.recs)
theorem fsS_keys (l : List Sg) : (fsS l).map (·.1) = l.map (·.file) := by unfold fsS; rw [List.map_map]; rfl
theorem fsS_app (a b : List Sg) : fsS (a ++ b) = fsS a ++ fsS b := by unfold fsS; rw [List.map_append]
def fsT (l0 : List Sg) (x : Sg) (t : BA) : FS := fsS l0 ++ [(x.file, framesOf x.recs ++ t)]
theorem fsT_keys (l0 : List Sg) (x : Sg) (t : BA) : (fsT l0 x t).map (·.1) = (l0 ++ [x]).map (·.file) := by unfold fsT; rw [List.map_append, fsS_keys, List.map_append]; rfl
theorem fget_fsS {l : List Sg} {x : Sg} (h : (l.map (·.file)).Nodup) (hx : x ∈ l) : fget x.file (fsS l) = some (framesOf x.recs) := by
  induction l with
  | nil => simp at hx
  | cons y l ih =>
    rw [List.map_cons, List.nodup_cons] at h
    show fget x.file ((y.file, framesOf y.recs) :: fsS l) = _
    rw [fget]
    rcases List.mem_cons.1 hx with rfl | hx
    · rw [if_pos rfl]
    · rw [if_neg (fun e => h.1 (by rw [← e]; exact List.mem_map_of_mem hx))]
      exact ih h.2 hx
end Go.Proofs.YtadgdikijdmceaaGreat
set_option linter.unusedSimpArgs false
set_option linter.unusedVariables false
namespace Go.Proofs.YtadgdikijdmceaaGreat
open Go Go.Fx Go.Pl

def TornB (t : BA) : Prop := t = ⟨#[]⟩ ∨ scanOf t = ([], 0, 70)
def tailS (x : Sg) : List Sg := match x.recs with | [] => [] | _ :: _ => [x]
structure Firm (d : Dk) (F : FS) : Prop where
  ok : d.Ok
  still : d.still = false
  loose : d.loose = []
  eq : FEq d.files F
theorem Firm.sure {d : Dk} {F : FS} (h : Firm d F) : d.sure = d.files := by
  have := h.ok.play
  rw [h.loose] at this
  exact this
theorem read_of {d : Dk} {k t : BA} (hd : d.Ok) (hs : d.still = false) (hm : mayN k = true) (hg : fget k d.files = some t) : d.read k 0 16777216 = (t, 0) := by
  have ht : ftext k d.files = t := by unfold ftext; rw [hg]; rfl
  have hz := ftext_le k d.files
  have hu := hd.used
  have hh : d.has k = true := by unfold Dk.has; rw [hg]; rfl
  rw [ht] at hz
  rw [read_eq d hm _ (by decide), hs, hh, ht, cut_all _ _ (by omega)]
  rfl
theorem scan_all (l : List BA) (h : allOk l = true) : scanOf (framesOf l) = (l, lenT l, 0) := by
  have := scanOf_frames ⟨#[]⟩ l h
  rw [ba_nil, scanOf_nil] at this
  simpa using this
theorem lenT_pos {l : List BA} (h : l ≠ []) : 0 < lenT l := by
  have := len_lenT' l
  cases l with
  | nil => exact absurd rfl h
  | cons a l => rw [List.length_cons] at this; omega
theorem readT_full {d : Dk} {x : Sg} (last : Bool) (hd : d.Ok) (hs : d.still = false) (hm : mayN x.file = true) (hg : fget x.file d.files = some (framesOf x.recs)) (ha : allOk x.recs = true) (hr : x.recs ≠ []) : readT d ⟨x.file, x.first, []⟩ last = (x, false, 0) := by
  unfold readT
  dsimp only
  rw [read_of hd hs hm hg, scan_all _ ha]
  dsimp only
  have := lenT_pos hr
  rw [if_neg (fun h => h rfl), if_neg (fun h => by cases h.1), if_neg (fun h => h rfl), List.nil_append, decide_eq_false (by omega)]
def cutC (x : Sg) : Cl := match x.recs with | [] => .rem x.file | _ :: _ => .trunc x.file (lenT x.recs : Int)
theorem cutT_eq {d : Dk} {x : Sg} {t : BA} (hs : d.still = false) (hm : mayN x.file = true) (hg : fget x.file d.files = some (framesOf x.recs ++ t)) : cutT d x = d.doC (cutC x) := by
  have hh : d.has x.file = true := by unfold Dk.has; rw [hg]; rfl
  have ht : ftext x.file d.files = framesOf x.recs ++ t := by unfold ftext; rw [hg]; rfl
  have hl : d.live [x.file] = 0 := by rw [live1 d hm, hs]; rfl
  unfold cutT cutC
  cases hr : x.recs with
  | nil =>
    dsimp only
    unfold Dk.remove
    rw [hl, if_neg (fun h => h rfl), hh]
    rfl
  | cons a l =>
    dsimp only
    unfold Dk.truncate
    rw [hl, if_neg (fun h => h rfl), if_neg (by omega), hh, ht, hr, ByteArray.size_append, framesOf_size]
    rw [if_neg (by decide), if_neg (by omega)]
theorem cut_run {name : BA} {seg f : Nat} {l0 : List Sg} {x : Sg} {F : FS} {t : BA} (h : Sq name seg f l0 x) (hs : 1 ≤ seg) (hF : FEq F (fsT l0 x t)) (hn : (F.map (·.1)).Nodup) : FEq ((cutC x).run F) (fsS (l0 ++ tailS x)) := by
  have hnin := h.notin hs
  rw [← fsS_keys] at hnin
  have hnd : ((fsT l0 x t).map (·.1)).Nodup := by rw [fsT_keys]; exact (h.nm hs).nodup
  unfold cutC tailS
  cases hr : x.recs with
  | nil =>
    dsimp only
    rw [List.append_nil]
    refine (hF.del x.file hn hnd).trans ?_
    unfold fsT
    rw [fdel_end hnin]
    exact .refl _
  | cons a l =>
    dsimp only
    have ht : ftext x.file F = framesOf x.recs ++ t := by rw [hF.text]; unfold ftext fsT; rw [fget_end hnin]; rfl
    show FEq (fput x.file ((ftext x.file F).extract 0 ((lenT (a :: l) : Int)).toNat) F) _
    rw [ht, hr, Int.toNat_natCast, ext_left _ _ (framesOf_size _).symm]
    refine (hF.put x.file _).trans ?_
    unfold fsT
    rw [fput_end hnin, fsS_app]
    show FEq _ (fsS l0 ++ [(x.file, framesOf x.recs)])
    rw [hr]
    exact .refl _
theorem cutC_ok {d : Dk} {x : Sg} {t : BA} (hd : d.Ok) (hs : d.still = false) (hm : mayN x.file = true) (hg : fget x.file d.files = some (framesOf x.recs ++ t)) : (d.doC (cutC x)).1.Ok := by
  rw [← cutT_eq hs hm hg]
  exact cutT_ok hd x
theorem doC_m1 {d : Dk} (c : Cl) (hf : d.fuse = -1) : d.doC c = ({ d with files := c.run d.files, loose := d.loose ++ [c] }, 0) := by
  unfold Dk.doC
  rw [if_neg (by omega), hf]
  rw [← hf]
  simp
  intro h
  omega
theorem sync_m1 {d : Dk} (hs : d.still = false) (hf : d.fuse = -1) : d.sync = ({ d with sure := d.files, loose := [] }, 0) := by
  unfold Dk.sync Dk.settle
  rw [live0, hs, if_neg (by decide), if_neg (by omega), hf]
  rw [← hf]
  simp
  intro h
  omega

theorem Fl.next {name : BA} {seg : Nat} {l : List Sg} {f : Nat} (h : Fl name seg f l) (hl : l ≠ []) : nextS l = f + seg * l.length := by
  rcases List.eq_nil_or_concat l with rfl | ⟨a, x, rfl⟩
  · exact absurd rfl hl
  · rw [List.concat_eq_append] at h ⊢
    obtain ⟨h1, h2, h3, h4, _⟩ := Fl.app.1 h
    unfold nextS
    rw [List.getLast?_concat]
    show x.first + x.recs.length = _
    rw [h3, h4, List.length_append, List.length_singleton, Nat.mul_add, Nat.mul_one]
    omega
theorem tmod_nat {a b : Nat} (h : a % b = 0) : (a : Int).tmod (b : Int) = 0 := by
  rw [← Int.ofNat_tmod, h]; rfl
def zS (x : Sg) : Sg := ⟨x.file, x.first, []⟩
theorem load_nil {name : BA} {seg : Nat} {d : Dk} (hd : Firm d []) : loadT d name seg = (d, 0, []) := by
  have hk : d.files.map (·.1) = [] := by
    have := hd.eq.perm hd.ok.nd (by simp)
    exact List.Perm.eq_nil this
  unfold loadT
  have hs0 : sortN [] = [] := by unfold sortN; simp
  rw [hk, hs0]
  show loadE (d, 0, []) = _
  unfold loadE
  dsimp only
  rw [if_neg (fun h => h rfl), hd.loose, if_neg (by simp)]
end Go.Proofs.YtadgdikijdmceaaGreat
set_option linter.unusedSimpArgs false
set_option linter.unusedVariables false
namespace Go.Proofs.YtadgdikijdmceaaGreat
open Go Go.Fx Go.Pl

theorem topen_eq {d : Dk} {name : BA} {seg : Nat} (hm : mayN name = true) (hs : d.still = false) : topenT d name seg = loadT d name seg := by
  unfold topenT
  rw [read_eq d hm 0 (by decide), hs]
  cases d.has name with
  | true => rw [if_neg (by simp)]
  | false => rw [if_neg (by simp)]
theorem fused_perm {F G : FS} (h : F.Perm G) : fused F = fused G := by
  unfold fused
  exact (h.map _).sum_nat
theorem nodup_pairs {F : FS} (h : (F.map (·.1)).Nodup) : F.Nodup := by
  unfold List.Nodup at h ⊢
  rw [List.pairwise_map] at h
  exact h.imp fun {a b} hab e => hab (by rw [e])
theorem FEq.fused {F G : FS} (h : FEq F G) (hF : (F.map (·.1)).Nodup) (hG : (G.map (·.1)).Nodup) : fused F = fused G := by
  refine fused_perm ((List.perm_ext_iff_of_nodup (nodup_pairs hF) (nodup_pairs hG)).2 ?_)
  rintro ⟨k, v⟩
  rw [mem_fget hF, mem_fget hG, h]
def allR (l : List Sg) : List BA := l.flatMap (·.recs)
theorem allR_app (a b : List Sg) : allR (a ++ b) = allR a ++ allR b := by unfold allR; rw [List.flatMap_append]
theorem allR_cons (x : Sg) (b : List Sg) : allR (x :: b) = x.recs ++ allR b := by unfold allR; rw [List.flatMap_cons]
theorem fused_fsS : ∀ (l : List Sg), fused (fsS l) = lenT (allR l)
  | [] => rfl
  | x :: l => by
    rw [allR_cons, lenT_cat, ← fused_fsS l]
    show fused ((x.file, framesOf x.recs) :: fsS l) = _
    unfold fused
    rw [List.map_cons, List.sum_cons, framesOf_size]

theorem cut_mid (T : BA) (a n : Nat) (h : a + n ≤ T.size) : cut T (a : Int) (n : Int) = T.extract a (a + n) := by
  apply bl_inj
  unfold cut
  dsimp only
  have e0 : (if (T.size : Int) < (a : Int) then (T.size : Int) else (a : Int)).toNat = a := by rw [if_neg (by omega)]; omega
  rw [e0]
  have hz : (T.extract a T.size).size = T.size - a := by rw [ByteArray.size_extract]; omega
  rw [hz]
  have e1 : (if ((T.size - a : Nat) : Int) < (n : Int) then ((T.size - a : Nat) : Int) else (n : Int)).toNat = n := by rw [if_neg (by omega)]; omega
  rw [e1, bl_ext, bl_ext, bl_ext, List.drop_zero, Nat.sub_zero, List.take_take, Nat.add_sub_cancel_left, Nat.min_eq_left (by omega)]
theorem read_at {d : Dk} {k T : BA} {a n : Nat} (hs : d.still = false) (hm : mayN k = true) (hg : fget k d.files = some T) (h : a + n ≤ T.size) : d.read k (a : Int) (n : Int) = (T.extract a (a + n), 0) := by
  have ht : ftext k d.files = T := by unfold ftext; rw [hg]; rfl
  have hh : d.has k = true := by unfold Dk.has; rw [hg]; rfl
  unfold Dk.read
  rw [live1 d hm, hs, hh, ht, cut_mid _ _ _ h]
  simp
theorem framesOf_mid (a : List BA) (r : BA) (b : List BA) : (framesOf (a ++ r :: b)).extract (lenT a) (lenT a + (12 + r.size)) = frameOf r := by
  rw [framesOf_append]
  show (framesOf a ++ (frameOf r ++ framesOf b)).extract _ _ = _
  rw [← ByteArray.append_assoc]
  exact ext_mid _ _ _ (framesOf_size _).symm (by rw [framesOf_size, frameOf_size])
theorem getT_ok {d : Dk} {file : BA} {a b : List BA} {r : BA} (hs : d.still = false) (hm : mayN file = true) (hg : fget file d.files = some (framesOf (a ++ r :: b))) (hr : r.size ≤ 4194304) : getT d file (lenT a) r = (r, 0) := by
  have hz : lenT a + (12 + r.size) ≤ (framesOf (a ++ r :: b)).size := by
    rw [framesOf_size, lenT_cat]
    have : lenT (r :: b) = 12 + r.size + lenT b := by simp [lenT]
    omega
  unfold getT
  rw [read_at hs hm hg hz, framesOf_mid]
  dsimp only
  rw [if_neg (fun h => h rfl), scanOf_one r hr]
  show (if (0 : Int) = 0 ∧ 12 + r.size = 12 + r.size ∧ sumS r = sumS r then (r, (0 : Int)) else (⟨#[]⟩, 71)) = _
  rw [if_pos ⟨rfl, rfl, rfl⟩]
theorem readX_ok {d : Dk} {off : Nat} {most : Int} {file : BA} {first : Nat} (hs : d.still = false) (hm : mayN file = true) : ∀ (b a : List BA) (acc : List BA), fget file d.files = some (framesOf (a ++ b)) → allOk b = true →
    (readX d off most file first b a.length (lenT a) acc).1 = acc ++ (b.drop (off - (first + a.length))).take (most - acc.length).toNat ∧ (readX d off most file first b a.length (lenT a) acc).2.1 = 0 ∧
    ((readX d off most file first b a.length (lenT a) acc).2.2 = true → most ≤ ((readX d off most file first b a.length (lenT a) acc).1.length : Int)) ∧
    ((readX d off most file first b a.length (lenT a) acc).2.2 = false → (readX d off most file first b a.length (lenT a) acc).1 = acc ++ b.drop (off - (first + a.length)))
  | [], a, acc, _, _ => by simp [readX]
  | r :: b, a, acc, hg, ho => by
    simp only [allOk, List.all_cons, Bool.and_eq_true, decide_eq_true_eq] at ho
    have e1 : (a ++ [r]).length = a.length + 1 := by simp
    have e2 : lenT (a ++ [r]) = lenT a + (12 + r.size) := lenT_snoc _ _
    have ih := fun acc => readX_ok (d := d) (off := off) (most := most) (first := first) hs hm b (a ++ [r]) acc (by rw [List.append_assoc]; exact hg) ho.2
    rw [e1, e2] at ih
    rw [readX]
    by_cases h1 : first + a.length < off
    · rw [if_pos h1]
      have e3 : off - (first + a.length) = (off - (first + (a.length + 1))) + 1 := by omega
      rw [e3, List.drop_succ_cons]
      exact ih acc
    · rw [if_neg h1]
      have e3 : off - (first + a.length) = 0 := by omega
      have e4 : off - (first + (a.length + 1)) = 0 := by omega
      rw [e3, List.drop_zero]
      by_cases h2 : most ≤ (acc.length : Int)
      · rw [if_pos h2]
        have : (most - (acc.length : Int)).toNat = 0 := by omega
        rw [this]
        exact ⟨by simp, rfl, fun _ => h2, fun h => by cases h⟩
      · rw [if_neg h2, getT_ok hs hm hg ho.1]
        dsimp only
        rw [if_neg (fun h => h rfl)]
        have := ih (acc ++ [r])
        rw [e4, List.drop_zero, List.length_append, List.length_singleton] at this
        obtain ⟨q1, q2, q3, q4⟩ := this
        have e5 : (most - (acc.length : Int)).toNat = (most - ((acc.length + 1 : Nat) : Int)).toNat + 1 := by omega
        refine ⟨by rw [q1, e5, List.take_succ_cons, List.append_assoc]; rfl, q2, q3, fun h => by rw [q4 h, List.append_assoc]; rfl⟩
def Cn (name : BA) : Nat → List Sg → Prop
  | _, [] => True
  | f, x :: l => x.file = fileT name f ∧ x.first = f ∧ Cn name (f + x.recs.length) l
theorem readL_ok {d : Dk} {name : BA} {off : Nat} {most : Int} (hm : mayN name = true) (hz : name.size ≤ 32) (hs : d.still = false) : ∀ (l : List Sg) (f : Nat) (acc : List BA), Cn name f l → (∀ x ∈ l, fget x.file d.files = some (framesOf x.recs) ∧ allOk x.recs = true) →
    readL d off most l acc = (acc ++ ((allR l).drop (off - f)).take (most - acc.length).toNat, 0)
  | [], f, acc, _, _ => by simp [readL, allR]
  | x :: l, f, acc, ⟨h1, h2, h3⟩, hx => by
    obtain ⟨g1, g2⟩ := hx x (List.mem_cons_self ..)
    obtain ⟨q1, q2, q3, q4⟩ := readX_ok (d := d) (off := off) (most := most) (file := x.file) (first := x.first) hs (by rw [h1]; exact mayN_fileT name _ hm hz) x.recs [] acc g1 g2
    simp only [show lenT ([] : List BA) = 0 from rfl, List.length_nil, Nat.add_zero, h2] at q1 q2 q3 q4
    rw [readL, allR_cons, h2]
    generalize readX d off most x.file f x.recs 0 0 acc = R at q1 q2 q3 q4
    obtain ⟨r1, r2, r3⟩ := R
    dsimp only at q1 q2 q3 q4 ⊢
    subst q2
    have hdr : (x.recs ++ allR l).drop (off - f) = x.recs.drop (off - f) ++ (allR l).drop (off - (f + x.recs.length)) := by
      rw [List.drop_append]
      congr 2
      omega
    rw [hdr]
    cases r3 with
    | true =>
      rw [if_pos rfl, q1]
      have h5 := q3 rfl
      rw [q1, List.length_append, List.length_take] at h5
      congr 2
      rw [List.take_append]
      have : (most - (acc.length : Int)).toNat - (x.recs.drop (off - f)).length = 0 := by omega
      rw [this]; simp
    | false =>
      have h5 := q4 rfl
      rw [if_neg (by decide), readL_ok hm hz hs l (f + x.recs.length) r1 h3 (fun y hy => hx y (List.mem_cons_of_mem _ hy))]
      congr 1
      rw [h5, List.append_assoc]
      congr 1
      rw [List.take_append]
      rw [q1] at h5
      have h6 := congrArg List.length (List.append_cancel_left h5)
      rw [List.length_take] at h6
      rw [List.take_of_length_le (i := (most - (acc.length : Int)).toNat) (by omega)]
      congr 2
      rw [List.length_append]
      omega
end Go.Proofs.YtadgdikijdmceaaGreat
