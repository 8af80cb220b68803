/- Texts merged: PgP PgQ. -/
import Derived.Test.YtphaegcoldpclaaGreatDoorSdP
set_option linter.unusedSimpArgs false
set_option linter.unusedVariables false
namespace Go.Pl
open Go

inductive Dc where
  | mk (t : Int) (row : List Vl) (kids : List Dc)
mutual
def leftD : Dc → Nat → Int → Int
  | .mk _ _ _, 0, _ => -1
  | .mk _ _ ks, deep + 1, most => if most - 1 < 0 then -1 else leftK ks deep (most - 1)
def leftK : List Dc → Nat → Int → Int
  | [], _, m => m
  | k :: ks, deep, m => if leftD k deep m < 0 then -1 else leftK ks deep (leftD k deep m)
end
mutual
def sizeDc : Dc → Nat → Int → Int
  | .mk _ _ _, 0, _ => -1
  | .mk _ _ ks, deep + 1, most => if most < 1 then -1 else sizeK ks deep most 1
def sizeK : List Dc → Nat → Int → Int → Int
  | [], _, _, n => n
  | k :: ks, deep, most, n => if sizeDc k deep (most - n) < 0 then -1 else sizeK ks deep most (n + sizeDc k deep (most - n))
end
mutual
theorem sizeDc_rng : ∀ (d : Dc) (deep : Nat) (most : Int), sizeDc d deep most = -1 ∨ (1 ≤ sizeDc d deep most ∧ sizeDc d deep most ≤ most)
  | .mk _ _ _, 0, _ => .inl (by simp only [sizeDc])
  | .mk _ _ ks, deep + 1, most => by
    simp only [sizeDc]
    split
    · exact .inl rfl
    · exact sizeK_rng ks deep most 1 (by omega) (by omega)
theorem sizeK_rng : ∀ (ks : List Dc) (deep : Nat) (most n : Int), 1 ≤ n → n ≤ most → sizeK ks deep most n = -1 ∨ (1 ≤ sizeK ks deep most n ∧ sizeK ks deep most n ≤ most)
  | [], _, _, n, h1, h2 => .inr (by simp only [sizeK]; exact ⟨h1, h2⟩)
  | k :: ks, deep, most, n, h1, h2 => by
    simp only [sizeK]
    split
    · exact .inl rfl
    · rename_i h
      rcases sizeDc_rng k deep (most - n) with h3 | ⟨h3, h4⟩
      · omega
      · exact sizeK_rng ks deep most _ (by omega) (by omega)
end
mutual
theorem leftD_eq : ∀ (d : Dc) (deep : Nat) (most : Int), leftD d deep most = if sizeDc d deep most < 0 then -1 else most - sizeDc d deep most
  | .mk t r ks, 0, most => by
    have e1 : leftD (.mk t r ks) 0 most = -1 := by simp only [leftD]
    have e2 : sizeDc (.mk t r ks) 0 most = -1 := by simp only [sizeDc]
    rw [e1, e2]; rfl
  | .mk t r ks, deep + 1, most => by
    by_cases h : most < 1
    · have e1 : leftD (.mk t r ks) (deep + 1) most = -1 := by simp only [leftD]; rw [if_pos (by omega)]
      have e2 : sizeDc (.mk t r ks) (deep + 1) most = -1 := by simp only [sizeDc]; rw [if_pos h]
      rw [e1, e2]; rfl
    · have e1 : leftD (.mk t r ks) (deep + 1) most = leftK ks deep (most - 1) := by simp only [leftD]; rw [if_neg (by omega)]
      have e2 : sizeDc (.mk t r ks) (deep + 1) most = sizeK ks deep most 1 := by simp only [sizeDc]; rw [if_neg h]
      rw [e1, e2]
      exact leftK_eq ks deep most 1 (by omega) (by omega)
theorem leftK_eq : ∀ (ks : List Dc) (deep : Nat) (most n : Int), 1 ≤ n → n ≤ most → leftK ks deep (most - n) = if sizeK ks deep most n < 0 then -1 else most - sizeK ks deep most n
  | [], deep, most, n, h1, h2 => by
    have e1 : leftK [] deep (most - n) = most - n := by simp only [leftK]
    have e2 : sizeK [] deep most n = n := by simp only [sizeK]
    rw [e1, e2, if_neg (by omega)]
  | k :: ks, deep, most, n, h1, h2 => by
    have e := leftD_eq k deep (most - n)
    rcases sizeDc_rng k deep (most - n) with h3 | ⟨h3, h4⟩
    · have e' : leftD k deep (most - n) = -1 := by rw [e, h3]; rfl
      have e1 : leftK (k :: ks) deep (most - n) = -1 := by simp only [leftK]; rw [if_pos (by omega)]
      have e2 : sizeK (k :: ks) deep most n = -1 := by simp only [sizeK]; rw [if_pos (by omega)]
      rw [e1, e2]; rfl
    · have e' : leftD k deep (most - n) = most - n - sizeDc k deep (most - n) := by rw [e, if_neg (by omega)]
      have e1 : leftK (k :: ks) deep (most - n) = leftK ks deep (leftD k deep (most - n)) := by simp only [leftK]; rw [if_neg (by omega)]
      have e2 : sizeK (k :: ks) deep most n = sizeK ks deep most (n + sizeDc k deep (most - n)) := by simp only [sizeK]; rw [if_neg (by omega)]
      rw [e1, e2, ← leftK_eq ks deep most (n + sizeDc k deep (most - n)) (by omega) (by omega), e']
      congr 1; omega
end
def sizeS (d : Dc) : Int := if sizeDc d 8 200 < 0 then 0 else sizeDc d 8 200
mutual
def sameD : Dc → Dc → Bool
  | .mk t r ks, .mk t' r' ks' => decide (t = t') && (decide (r = r') && sameK ks ks')
def sameK : List Dc → List Dc → Bool
  | [], [] => true
  | k :: ks, k' :: ks' => sameD k k' && sameK ks ks'
  | _, _ => false
end
mutual
theorem sameD_iff : ∀ (a b : Dc), sameD a b = true ↔ a = b
  | .mk t r ks, .mk t' r' ks' => by
    simp only [sameD, Bool.and_eq_true, decide_eq_true_eq, Dc.mk.injEq, sameK_iff ks ks']
theorem sameK_iff : ∀ (a b : List Dc), sameK a b = true ↔ a = b
  | [], [] => by simp [sameK]
  | k :: ks, k' :: ks' => by
    simp only [sameK, Bool.and_eq_true, List.cons.injEq, sameD_iff k k', sameK_iff ks ks']
  | [], _ :: _ => by simp [sameK]
  | _ :: _, [] => by simp [sameK]
end
end Go.Pl
set_option linter.unusedSimpArgs false
set_option linter.unusedVariables false
namespace Go.Pl
open Go

mutual
def nodesD : Dc → List (Int × List Vl)
  | .mk t r ks => (t, r) :: nodesK ks
def nodesK : List Dc → List (Int × List Vl)
  | [] => []
  | k :: ks => nodesD k ++ nodesK ks
end
mutual
def highD : Dc → Nat
  | .mk _ _ ks => highK ks + 1
def highK : List Dc → Nat
  | [] => 0
  | k :: ks => max (highD k) (highK ks)
end
mutual
theorem sizeDc_nodes : ∀ (d : Dc) (deep : Nat) (most : Int), highD d ≤ deep → ((nodesD d).length : Int) ≤ most → sizeDc d deep most = (nodesD d).length
  | .mk t r ks, 0, most, h, _ => by simp only [highD] at h; omega
  | .mk t r ks, deep + 1, most, h, hm => by
    simp only [highD] at h
    simp only [nodesD, List.length_cons] at hm ⊢
    have e : sizeDc (.mk t r ks) (deep + 1) most = sizeK ks deep most 1 := by simp only [sizeDc]; rw [if_neg (by omega)]
    rw [e, sizeK_nodes ks deep most 1 (by omega) (by omega) (by omega)]
    omega
theorem sizeK_nodes : ∀ (ks : List Dc) (deep : Nat) (most n : Int), 1 ≤ n → highK ks ≤ deep → n + (nodesK ks).length ≤ most → sizeK ks deep most n = n + (nodesK ks).length
  | [], deep, most, n, _, _, _ => by simp only [sizeK, nodesK]; simp
  | k :: ks, deep, most, n, h1, h, hm => by
    simp only [highK] at h
    simp only [nodesK, List.length_append] at hm ⊢
    have hk := sizeDc_nodes k deep (most - n) (by omega) (by omega)
    have e : sizeK (k :: ks) deep most n = sizeK ks deep most (n + sizeDc k deep (most - n)) := by simp only [sizeK]; rw [if_neg (by omega)]
    rw [e, hk, sizeK_nodes ks deep most _ (by omega) (by omega) (by omega)]
    omega
end
theorem goD_dep : ∀ {rest ahead : Sc} {ds out : List Int}, ds.length = ahead.length → goD ahead ds rest = some out →
    (∀ k, k < ahead.length → out[k]? = ds[k]?) ∧ ∀ (k : Nat) (t : Tc), ahead.length ≤ k → (ahead ++ rest)[k]? = some t → (t.ref = -1 ∧ t.par = -1) ∨ (0 ≤ t.ref ∧ 0 ≤ t.par ∧ t.par < k ∧ out[k]? = some ((out[t.par.toNat]?).getD 0 + 1))
  | [], ahead, ds, out, hl, e => by
    simp only [goD, Option.some.injEq] at e
    subst e
    refine ⟨fun _ _ => rfl, fun k t hk h => ?_⟩
    rw [List.append_nil] at h
    have := (List.getElem?_eq_some_iff.1 h).1
    omega
  | t :: rest, ahead, ds, out, hl, e => by
    unfold goD at e
    split at e
    · cases e
    · rename_i d hd
      obtain ⟨h1, h2⟩ := goD_dep (by simp [hl]) e
      have hk0 : ∀ k, k < ahead.length → out[k]? = ds[k]? := fun k hk => by
        rw [h1 k (by simp; omega), List.getElem?_append_left (by omega)]
      refine ⟨hk0, fun k u hk hu => ?_⟩
      rcases Nat.lt_or_ge ahead.length k with h3 | h3
      · exact h2 k u (by simp; omega) (by rw [List.append_assoc]; exact hu)
      · obtain rfl : k = ahead.length := by omega
        rw [List.getElem?_append_right (Nat.le_refl _), Nat.sub_self, List.getElem?_cons_zero, Option.some.injEq] at hu
        subst hu
        have ho : out[ahead.length]? = some d := by
          rw [h1 ahead.length (by simp), List.getElem?_append_right (by omega), hl]; simp
        rcases tableS_par hd with h4 | ⟨h4, h5, h6⟩
        · exact .inl h4
        · refine .inr ⟨h4, h5, h6, ?_⟩
          rw [ho, hk0 t.par.toNat (by omega)]
          unfold tableS at hd
          split at hd
          · cases hd
          split at hd
          · cases hd
          split at hd
          · rename_i h7; omega
          split at hd
          · cases hd
          split at hd
          · exact hd.symm
          · cases hd
theorem dep_ex {s : Sc} (h : checkS s = true) : ∃ dep : Int → Nat, (∀ t : Int, 0 ≤ t → t < s.length → 1 ≤ dep t ∧ dep t ≤ 8) ∧
    ∀ c : Int, 0 ≤ c → c < s.length → ((tabAt s c).ref = -1 ∧ (tabAt s c).par = -1) ∨ (0 ≤ (tabAt s c).ref ∧ 0 ≤ (tabAt s c).par ∧ (tabAt s c).par < c ∧ dep c = dep (tabAt s c).par + 1) := by
  obtain ⟨ds, hd, hah, h1, h12⟩ := checkS_ok h
  unfold depthsS at hd
  split at hd
  · cases hd
  split at hd
  · cases hd
  rename_i ds' hg
  split at hd
  · cases hd
    obtain ⟨_, h2⟩ := goD_dep (ahead := []) (ds := []) rfl hg
    have hget : ∀ t : Int, 0 ≤ t → t < s.length → ∃ d, ds[t.toNat]? = some d ∧ 1 ≤ d ∧ d ≤ 8 := fun t t0 t1 => by
      have hlt : t.toNat < ds.length := by have := hah.len; omega
      exact ⟨ds[t.toNat], List.getElem?_eq_getElem hlt, hah.dep _ (List.getElem_mem hlt)⟩
    refine ⟨fun t => ((ds[t.toNat]?).getD 0).toNat, fun t t0 t1 => ?_, fun c c0 c1 => ?_⟩
    · obtain ⟨d, e, d1, d8⟩ := hget t t0 t1
      dsimp only
      rw [e, Option.getD_some]; omega
    · have hlt : c.toNat < s.length := by omega
      have hx : s[c.toNat]? = some s[c.toNat] := List.getElem?_eq_getElem hlt
      have ht : tabAt s c = s[c.toNat] := by unfold tabAt; rw [hx]; rfl
      rw [ht]
      rcases h2 c.toNat s[c.toNat] (by simp) (by simp) with h3 | ⟨h3, h4, h5, h6⟩
      · exact .inl h3
      · refine .inr ⟨h3, h4, by omega, ?_⟩
        obtain ⟨d, e, d1, d8⟩ := hget (s[c.toNat]).par h4 (by omega)
        dsimp only
        rw [h6, e]
        simp only [Option.getD_some]
        omega
  · cases hd
end Go.Pl
