/- Texts merged: FwFk FwFq. -/
import Derived.Test.YtphaegcoldpclaaGreatDoorFwX
set_option linter.unusedSimpArgs false
set_option linter.unusedVariables false
namespace Go.Fx
open Go

section
variable {P : Program} {ops : Array Oper} {r : Option Nat} {kd : Nat → Nat} {nb : List Nat} {Tm : World → Prop} {N N' : Act → World → Prop}
theorem OkT.append {R : List Nat} : ∀ (l : List Nat) (S : World → Prop) (a : Act) (w : World), (∀ i ∈ l, kd i ≠ 2) → OkT P ops kd nb Tm N' l S a w → (∀ a, N' a w → OkT P ops kd nb Tm N R S a w) → OkT P ops kd nb Tm N (l ++ R) S a w
  | [], S, a, w, _, h, k => k a h
  | i :: l, S, a, w, hq, h, k => by
    obtain ⟨o, hi, hd, h⟩ := h
    rcases h with ⟨h2, _⟩ | ⟨v, hv, h⟩
    · exact absurd h2 (hq i (List.mem_cons_self ..))
    · exact ⟨o, hi, hd, .inr ⟨v, hv, OkT.append l S _ _ (fun j hj => hq j (List.mem_cons_of_mem _ hj)) h k⟩⟩
theorem OkT.extract {p : Nat} {kd' : Nat → Nat} : ∀ (l : List Nat) (S : World → Prop) (a : Act) (w : World), (∀ i ∈ l, i < p ∧ kd i ≠ 2 ∧ kd' i = kd i) → (∀ i < p, ∀ o, ops[i]? = some o → o.guard = none) → OkT P (ops.extract 0 p) kd' nb Tm N l S a w → OkT P ops kd nb Tm N l S a w
  | [], S, a, w, _, _, h => h
  | i :: l, S, a, w, hq, hg, h => by
    obtain ⟨o, hi, hd, h⟩ := h
    obtain ⟨h1, h2, h3⟩ := hq i (List.mem_cons_self ..)
    have hi' : ops[i]? = some o := by
      rw [Array.getElem?_extract] at hi
      split at hi
      · simpa using hi
      · cases hi
    have hgo := hg i h1 o hi'
    have hwt : ∀ y, Region.wanted o y = true := fun y => by unfold Region.wanted; rw [hgo]
    rcases h with ⟨h4, _⟩ | ⟨v, hv, h⟩
    · exact absurd (h3 ▸ h4) h2
    · refine ⟨o, hi', hd, .inr ⟨v, ?_, OkT.extract l S _ _ (fun j hj => hq j (List.mem_cons_of_mem _ hj)) hg h⟩⟩
      unfold Quiet at hv ⊢
      rw [hwt, h3] at hv
      rw [hwt]
      exact hv
def regionOkTF (ops : Array Oper) (kd : Nat → Nat) (nb : List Nat) (T : Array Nat) (p : Nat) : Bool :=
  Region.noSelect ops && (List.range ops.size).all fun i =>
    (preds ops i).all (· < i) && T.getD i 0 == maskOf T (preds ops i) && (List.range i).all fun j => (T.getD i 0).testBit j || commPair ops kd nb j i || (j == p && i == p + 1)
theorem bit_listed {T : Array Nat} {listed : Array Bool} {j : Nat} (hok : ∀ i, i < ops.size → (∀ m ∈ preds ops i, m < i) ∧ T.getD i 0 = maskOf T (preds ops i)) (hdown : ∀ i, listed.getD i false = true → ∀ m ∈ preds ops i, listed.getD m false = true) :
    ∀ (n k : Nat), k ≤ n → k < ops.size → (∀ m ∈ preds ops k, listed.getD m false = true) → (T.getD k 0).testBit j = true → listed.getD j false = true := by
  intro n
  induction n with
  | zero =>
    intro k hk hks hp hb
    obtain rfl : k = 0 := by omega
    rw [(hok 0 hks).2] at hb
    rcases maskOf_spec T j _ 0 hb with hb | ⟨m, hm, _⟩
    · simp at hb
    · exact absurd ((hok 0 hks).1 m hm) (by omega)
  | succ n ih =>
    intro k hk hks hp hb
    rw [(hok k hks).2] at hb
    rcases maskOf_spec T j _ 0 hb with hb | ⟨m, hm, hb⟩
    · simp at hb
    · have hmk := (hok k hks).1 m hm
      have hlm := hp m hm
      rcases hb with rfl | hb
      · exact hlm
      · exact ih m (by omega) (by omega) (hdown m hlm) hb
end

section
variable {X : Cx} {ds : List Deferred} {ρ : Regs} {L : List HProp} {Q : Exit → Act → World → Prop} {ops : Array Oper}
def FrkQ (X : Cx) (ops : Array Oper) (nb : List Nat) (Q : Exit → Act → World → Prop) (p : Nat) (Ls : List HProp) : Exit → Act → World → Prop := fun _ a w =>
  OkT X.P ops (kdf X.cv ops) nb (fun w => Sats X.w0 w []) (Q .normal) (p :: (p + 1) :: List.range' (p + 2) (ops.size - (p + 2))) (fun w => Sats X.w0 w Ls) a w ∧
    OkT X.P ops (kdf X.cv ops) nb (fun w => Sats X.w0 w []) (Q .normal) ((p + 1) :: p :: List.range' (p + 2) (ops.size - (p + 2))) (fun w => Sats X.w0 w Ls) a w
def forkOk (ops : Array Oper) (cv : List TypeId) (p : Nat) : Bool :=
  Nat.blt (p + 1) ops.size && (List.range p).all (fun i => kdf cv ops i != 2 && ((ops[i]?).map (·.guard.isNone)).getD false) && (List.range ops.size).all fun i => Nat.ble i (p + 1) || ((Region.before ops).getD i 0).testBit p
end
end Go.Fx
set_option linter.unusedSimpArgs false
set_option linter.unusedVariables false
namespace Go.Fx
open Go

section
variable {P : Program} {ops : Array Oper} {r : Option Nat} {kd : Nat → Nat} {nb : List Nat} {Tm : World → Prop} {N N' : Act → World → Prop}
def regionOkTQ (ops : Array Oper) (kd : Nat → Nat) (nb : List Nat) (T : Array Nat) (p q : Nat) : Bool :=
  Region.noSelect ops && (List.range ops.size).all fun i =>
    (preds ops i).all (· < i) && T.getD i 0 == maskOf T (preds ops i) && (List.range i).all fun j => (T.getD i 0).testBit j || commPair ops kd nb j i || (j == p && i == q)
theorem OkT.any_goQ {Q : Exit → Act → World → Prop} (hN : ∀ a w, N a w → Q .normal a w) {T : Array Nat} {p q : Nat} (hok : regionOkTQ ops kd nb T p q = true) :
    ∀ (fuel : Nat) (listed : Array Bool) (S : World → Prop) (a : Act) (w : World), listed.size = ops.size → (rem ops listed).length ≤ fuel →
      (∀ i, listed.getD i false = true → ∀ m ∈ preds ops i, listed.getD m false = true) → (listed.getD p false = true ∨ listed.getD q false = true) → (∀ w, S w → Tm w) → S w → OkT P ops kd nb Tm N (rem ops listed) S a w → Go.wpAnyIn (Fw r) 0 P .any ops Q fuel listed a w := by
  simp only [regionOkTQ, Bool.and_eq_true, List.all_eq_true, List.mem_range] at hok
  obtain ⟨hsel, hok⟩ := hok
  have hnone : ∀ listed : Array Bool, Region.ready .any ops listed = [] → (∀ i, listed.getD i false = true → ∀ m ∈ preds ops i, listed.getD m false = true) → listed.size = ops.size → rem ops listed = [] := by
    intro listed hr _ hsz
    cases hrem : rem ops listed with
    | nil => rfl
    | cons x xs =>
      exfalso
      -- the least one that has not come up is ready
      have hall : ∀ n i, i ≤ n → i < ops.size → listed.getD i true = true := by
        intro n
        induction n with
        | zero =>
          intro i h0 hi
          obtain rfl : i = 0 := by omega
          cases h : listed.getD 0 true with
          | true => rfl
          | false =>
            have : 0 ∈ Region.ready .any ops listed := ready_preds.2 ⟨hi, h, fun m hm => by
              have := (hok 0 hi).1.1
              have := this m hm
              simp at this⟩
            rw [hr] at this; cases this
        | succ n ih =>
          intro i h0 hi
          rcases Nat.lt_or_ge n i with hlt | hge
          · obtain rfl : i = n + 1 := by omega
            cases h : listed.getD (n + 1) true with
            | true => rfl
            | false =>
              have : n + 1 ∈ Region.ready .any ops listed := ready_preds.2 ⟨hi, h, fun m hm => by
                have h1 := (hok (n + 1) hi).1.1
                have h2 : m < n + 1 := by simpa using h1 m hm
                have h3 := ih m (by omega) (by omega)
                have hms : m < listed.size := by omega
                simp [hms] at h3 ⊢
                exact h3⟩
              rw [hr] at this; cases this
          · exact ih i hge hi
      have hx : x ∈ rem ops listed := by rw [hrem]; exact List.mem_cons_self ..
      simp only [rem, List.mem_filter, List.mem_range, Bool.not_eq_true'] at hx
      have := hall x x (Nat.le_refl _) hx.1
      rw [hx.2] at this; cases this
  intro fuel
  induction fuel with
  | zero =>
    intro listed S a w hsz hlen hdown hpq hST hS h
    have hnil : rem ops listed = [] := List.length_eq_zero_iff.1 (by omega)
    rw [hnil] at h
    refine ⟨?_, hN _ _ h⟩
    cases hr : Region.ready .any ops listed with
    | nil => rfl
    | cons x xs =>
      have hx : x ∈ Region.ready .any ops listed := by rw [hr]; exact List.mem_cons_self ..
      obtain ⟨h1, h2, _⟩ := ready_preds.1 hx
      have : x ∈ rem ops listed := by simp only [rem, List.mem_filter, List.mem_range, Bool.not_eq_true']; exact ⟨h1, h2⟩
      rw [hnil] at this; cases this
  | succ fuel ih =>
    intro listed S a w hsz hlen hdown hpq hST hS h
    refine ⟨fun hr => ?_, fun i hi => ?_⟩
    · rw [hnone listed hr hdown hsz] at h; exact hN _ _ h
    · obtain ⟨h1, h2, h3⟩ := ready_preds.1 hi
      have hmem : i ∈ List.range ops.size := List.mem_range.2 h1
      obtain ⟨l1, l2, e1, e2, r1, r2, e3, hm⟩ := filter_split (fun i => !listed.getD i true) i (List.range ops.size) List.nodup_range hmem (by simpa using h2)
      have hrem : rem ops listed = l1 ++ i :: l2 := e1
      have hlt : i < listed.size := by omega
      have hrem' : rem ops (listed.setIfInBounds i true) = l1 ++ l2 := by
        rw [← e2]
        unfold rem
        apply List.filter_congr
        intro y hy
        by_cases hyi : y = i
        · subst hyi; simp [hlt]
        · rw [getD_set_ne true (Ne.symm hyi)]; simp [hyi]
      -- who stands ahead of i in the text and has not come up commutes with it
      have hbefore : ∀ n j, j ≤ n → listed.getD j true = false → ∀ k, k ≤ n → (∀ m ∈ preds ops k, listed.getD m false = true) → k < ops.size → (T.getD k 0).testBit j = true → False := by
        intro n
        induction n with
        | zero =>
          intro j hj hlj k hk hpk hks hb
          obtain rfl : k = 0 := by omega
          have hT := (hok 0 hks).1.2
          rw [beq_iff_eq] at hT
          rw [hT] at hb
          rcases maskOf_spec T j _ 0 hb with hb | ⟨m, hm, _⟩
          · simp at hb
          · have := (hok 0 hks).1.1 m hm
            simp at this
        | succ n ihn =>
          intro j hj hlj k hk hpk hks hb
          have hT := (hok k hks).1.2
          rw [beq_iff_eq] at hT
          rw [hT] at hb
          rcases maskOf_spec T j _ 0 hb with hb | ⟨m, hm, hb⟩
          · simp at hb
          · have hmk : m < k := by simpa using (hok k hks).1.1 m hm
            have hlm := hpk m hm
            rcases hb with rfl | hb
            · have hms : m < listed.size := by omega
              simp [hms] at hlm hlj
              rw [hlm] at hlj; cases hlj
            · rcases Nat.lt_or_ge n j with hjn | hjn
              · -- j = n + 1 > m: no bit
                have hjs : ∀ n' k', k' ≤ n' → k' < ops.size → ∀ j', k' ≤ j' → (T.getD k' 0).testBit j' = true → False := by
                  intro n'
                  induction n' with
                  | zero =>
                    intro k' hk' hks' j' hj' hb'
                    obtain rfl : k' = 0 := by omega
                    have hT := (hok 0 hks').1.2
                    rw [beq_iff_eq] at hT
                    rw [hT] at hb'
                    rcases maskOf_spec T j' _ 0 hb' with hb' | ⟨m', hm', _⟩
                    · simp at hb'
                    · have := (hok 0 hks').1.1 m' hm'
                      simp at this
                  | succ n' ih' =>
                    intro k' hk' hks' j' hj' hb'
                    have hT := (hok k' hks').1.2
                    rw [beq_iff_eq] at hT
                    rw [hT] at hb'
                    rcases maskOf_spec T j' _ 0 hb' with hb' | ⟨m', hm', hb'⟩
                    · simp at hb'
                    · have hmk' : m' < k' := by simpa using (hok k' hks').1.1 m' hm'
                      rcases hb' with rfl | hb'
                      · omega
                      · exact ih' m' (by omega) (by omega) j' (by omega) hb'
                exact hjs m m (Nat.le_refl _) (by omega) j (by omega) hb
              · exact ihn j hjn hlj m (by omega) (hdown m hlm) (by omega) hb
      have hcomm : ∀ j ∈ l1, commPair ops kd nb j i = true := by
        intro j hj
        obtain ⟨hjr, hpj⟩ := hm j hj
        have hji : j < i := by
          have hlen : i = r1.length := by
            have := congrArg (fun l => l[r1.length]?) e3
            simp only [List.getElem?_append_right (Nat.le_refl _), Nat.sub_self, List.getElem?_cons_zero] at this
            rw [List.getElem?_eq_some_iff] at this
            obtain ⟨hl, he⟩ := this
            rw [List.getElem_range] at he
            exact he.symm
          obtain ⟨k, hk, he⟩ := List.getElem_of_mem hjr
          have := congrArg (fun l => l[k]?) e3
          simp only [List.getElem?_append_left hk, List.getElem?_eq_getElem hk, he] at this
          rw [List.getElem?_eq_some_iff] at this
          obtain ⟨hl, he'⟩ := this
          rw [List.getElem_range] at he'
          omega
        have h4 := (hok i h1).2 j hji
        rw [Bool.or_eq_true, Bool.or_eq_true] at h4
        rcases h4 with (h4 | h4) | h4
        · exact (hbefore (max i j) j (by omega) (by simpa using hpj) i (by omega) h3 h1 h4).elim
        · exact h4
        · simp only [Bool.and_eq_true, beq_iff_eq] at h4
          obtain ⟨rfl, rfl⟩ := h4
          have hjs : j < listed.size := by omega
          rcases hpq with hpq | hpq
          · simp [hjs] at hpq hpj
            rw [hpq] at hpj; cases hpj
          · have hqs : i < listed.size := by omega
            simp [hqs] at hpq h2
            rw [hpq] at h2; cases h2
      rw [hrem] at h hlen
      obtain ⟨oi, hio, hdi, h⟩ := OkT.take (Region.noSelect_spec hsel) l1 S a w hST hS hcomm h
      have hdown' : ∀ k, (listed.setIfInBounds i true).getD k false = true → ∀ m ∈ preds ops k, (listed.setIfInBounds i true).getD m false = true := by
        intro k hk m hm
        by_cases hki : k = i
        · subst hki; exact getD_set_true (h3 m hm)
        · rw [getD_set_ne false (Ne.symm hki)] at hk
          exact getD_set_true (hdown k hk m hm)
      have hnext : ∀ S' a' w', (∀ w, S' w → Tm w) → S' w' → OkT P ops kd nb Tm N (l1 ++ l2) S' a' w' → Go.wpAnyIn (Fw r) 0 P .any ops Q fuel (listed.setIfInBounds i true) a' w' := fun S' a' w' hT' hS' h' =>
        ih _ S' a' w' (by simpa using hsz) (by rw [hrem']; simp at hlen ⊢; omega) hdown' (hpq.imp (fun h => getD_set_true h) (fun h => getD_set_true h)) hT' hS' (by rw [hrem']; exact h')
      rcases h with ⟨_, hw, h⟩ | ⟨v, hq, h⟩
      · exact OpVal.wpOpIn hio hdi hw (h.mono fun v w' ⟨S', _, hS', hT', h'⟩ => hnext S' _ _ hT' hS' h')
      · cases hw : Region.wanted oi (yielded ops a.tmps) with
        | true =>
          refine OpVal.wpOpIn hio hdi hw ?_
          unfold OpVal
          rw [hq.run hST hS hw]
          exact hnext S _ _ hST hS h
        | false =>
          unfold Go.wpOpIn
          simp only [hio, hw, Bool.false_eq_true, if_false]
          rcases hq with ⟨h1, _⟩ | ⟨_, rfl⟩
          · rw [hw] at h1; cases h1
          · exact ⟨fun _ _ => trivial, hnext S _ _ hST hS h⟩


theorem OkT.any_goQ2 {Q : Exit → Act → World → Prop} (hN : ∀ a w, N a w → Q .normal a w) {T : Array Nat} {p q : Nat} (hpq : p < q) (hok : regionOkTQ ops kd nb T p q = true) (hpk : ∀ i < p, kd i ≠ 2) (hlate : ∀ i, p < i → i ≠ q → i < ops.size → (T.getD i 0).testBit p = true) (hps : q < ops.size) :
    ∀ (fuel : Nat) (listed : Array Bool) (S : World → Prop) (a : Act) (w : World) (l1 mid l2 : List Nat), listed.size = ops.size → (rem ops listed).length ≤ fuel → rem ops listed = l1 ++ p :: (mid ++ q :: l2) → (∀ i ∈ l1, i < p) →
      (∀ i, listed.getD i false = true → ∀ m ∈ preds ops i, listed.getD m false = true) → (∀ w, S w → Tm w) → S w → OkT P ops kd nb Tm N (l1 ++ p :: (mid ++ q :: l2)) S a w → OkT P ops kd nb Tm N (l1 ++ q :: p :: (mid ++ l2)) S a w →
      Go.wpAnyIn (Fw r) 0 P .any ops Q fuel listed a w := by
  have hok0 := hok
  simp only [regionOkTQ, Bool.and_eq_true, List.all_eq_true, List.mem_range] at hok
  obtain ⟨hsel, hok⟩ := hok
  have hokT : ∀ i, i < ops.size → (∀ m ∈ preds ops i, m < i) ∧ T.getD i 0 = maskOf T (preds ops i) := fun i hi => ⟨fun m hm => by simpa using (hok i hi).1.1 m hm, by simpa using (hok i hi).1.2⟩
  intro fuel
  induction fuel with
  | zero =>
    intro listed S a w l1 mid l2 hsz hlen hr
    rw [hr] at hlen; simp at hlen
  | succ fuel ih =>
    intro listed S a w l1 mid l2 hsz hlen hr hl1 hdown hST hS hA hB
    have hmemr : ∀ x, x ∈ rem ops listed ↔ x < ops.size ∧ listed.getD x true = false := fun x => by simp [rem]
    have hpm : listed.getD p true = false := ((hmemr p).1 (by rw [hr]; simp)).2
    have hqm : listed.getD q true = false := ((hmemr q).1 (by rw [hr]; simp)).2
    have unl : ∀ x, x < ops.size → listed.getD x true = false → listed.getD x false = false := fun x hx h => by
      have : x < listed.size := by omega
      simp [this] at h ⊢; exact h
    refine ⟨fun hrd => ?_, fun i hi => ?_⟩
    · -- the least one that has not come up is ready
      exfalso
      have hall : ∀ n i, i ≤ n → i < ops.size → listed.getD i true = true := by
        intro n
        induction n with
        | zero =>
          intro i h0 hi
          obtain rfl : i = 0 := by omega
          cases h : listed.getD 0 true with
          | true => rfl
          | false =>
            have : 0 ∈ Region.ready .any ops listed := ready_preds.2 ⟨hi, h, fun m hm => absurd ((hokT 0 hi).1 m hm) (by omega)⟩
            rw [hrd] at this; cases this
        | succ n ihn =>
          intro i h0 hi
          cases h : listed.getD i true with
          | true => rfl
          | false =>
            have : i ∈ Region.ready .any ops listed := ready_preds.2 ⟨hi, h, fun m hm => by
              have h2 := (hokT i hi).1 m hm
              have h3 := ihn m (by omega) (by omega)
              have hms : m < listed.size := by omega
              simp [hms] at h3 ⊢
              exact h3⟩
            rw [hrd] at this; cases this
      have := hall p p (Nat.le_refl _) (by omega)
      rw [hpm] at this; cases this
    · obtain ⟨h1, h2, h3⟩ := ready_preds.1 hi
      have hbit : ∀ j, (T.getD i 0).testBit j = true → listed.getD j false = true := fun j hb => bit_listed hokT hdown i i (Nat.le_refl _) h1 h3 hb
      have hmem : i ∈ rem ops listed := (hmemr i).2 ⟨h1, h2⟩
      have hcm : ∀ j, j < i → listed.getD j true = false → (j ≠ p ∨ i ≠ q) → commPair ops kd nb j i = true := fun j hj hu hne => by
        have h4 := (hok i h1).2 j hj
        rw [Bool.or_eq_true, Bool.or_eq_true] at h4
        rcases h4 with (h4 | h4) | h4
        · have := hbit j h4
          rw [unl j (by omega) hu] at this; cases this
        · exact h4
        · simp only [Bool.and_eq_true, beq_iff_eq] at h4
          rcases hne with hne | hne
          · exact absurd h4.1 hne
          · exact absurd h4.2 hne
      have hlt : i < listed.size := by omega
      have hdown' : ∀ k, (listed.setIfInBounds i true).getD k false = true → ∀ m ∈ preds ops k, (listed.setIfInBounds i true).getD m false = true := by
        intro k hk m hm
        by_cases hki : k = i
        · subst hki; exact getD_set_true (h3 m hm)
        · rw [getD_set_ne false (Ne.symm hki)] at hk
          exact getD_set_true (hdown k hk m hm)
      have hrem : ∀ m1 m2, rem ops listed = m1 ++ i :: m2 → rem ops (listed.setIfInBounds i true) = m1 ++ m2 := by
        intro m1 m2 hmm
        have e1 : rem ops (listed.setIfInBounds i true) = (rem ops listed).filter (fun y => !(y == i)) := by
          unfold rem
          rw [List.filter_filter]
          apply List.filter_congr
          intro y hy
          by_cases hyi : y = i
          · subst hyi; simp [hlt]
          · rw [getD_set_ne true (Ne.symm hyi)]; simp [hyi]
        have hnd : (rem ops listed).Nodup := List.Pairwise.filter _ List.nodup_range
        rw [e1, hmm]
        rw [hmm] at hnd
        rw [List.nodup_append] at hnd
        obtain ⟨n1, n2, n3⟩ := hnd
        rw [List.nodup_cons] at n2
        rw [List.filter_append, List.filter_cons]
        simp only [beq_self_eq_true, Bool.not_true, Bool.false_eq_true, if_false]
        congr 1
        · rw [List.filter_eq_self]
          intro y hy
          have : y ≠ i := n3 y hy i (List.mem_cons_self ..)
          simp [this]
        · rw [List.filter_eq_self]
          intro y hy
          have : y ≠ i := fun e => n2.1 (e ▸ hy)
          simp [this]
      have hunl : ∀ x ∈ l1, listed.getD x true = false := fun x hx => ((hmemr x).1 (by rw [hr]; simp [hx])).2
      have hset : (listed.setIfInBounds i true).getD i false = true := by simp [hlt]
      by_cases hip : i = p
      · subst hip
        have hrm := hrem l1 (mid ++ q :: l2) hr
        obtain ⟨oi, hio, hdi, h⟩ := OkT.take (Region.noSelect_spec hsel) l1 S a w hST hS (fun j hj => hcm j (hl1 j hj) (hunl j hj) (.inr (by omega))) hA
        have hnext : ∀ S' a' w', (∀ w, S' w → Tm w) → S' w' → OkT P ops kd nb Tm N (l1 ++ (mid ++ q :: l2)) S' a' w' → Go.wpAnyIn (Fw r) 0 P .any ops Q fuel (listed.setIfInBounds i true) a' w' := fun S' a' w' hT' hS' h' =>
          OkT.any_goQ hN hok0 fuel _ S' a' w' (by simpa using hsz) (by rw [hrm]; rw [hr] at hlen; simp at hlen ⊢; omega) hdown' (.inl hset) hT' hS' (by rw [hrm]; exact h')
        rcases h with ⟨_, hw, h⟩ | ⟨v, hq, h⟩
        · exact OpVal.wpOpIn hio hdi hw (h.mono fun v w' ⟨S', _, hS', hT', h'⟩ => hnext S' _ _ hT' hS' h')
        · cases hw : Region.wanted oi (yielded ops a.tmps) with
          | true =>
            refine OpVal.wpOpIn hio hdi hw ?_
            unfold OpVal
            rw [hq.run hST hS hw]
            exact hnext S _ _ hST hS h
          | false =>
            unfold Go.wpOpIn
            simp only [hio, hw, Bool.false_eq_true, if_false]
            rcases hq with ⟨h1, _⟩ | ⟨_, rfl⟩
            · rw [hw] at h1; cases h1
            · exact ⟨fun _ _ => trivial, hnext S _ _ hST hS h⟩
      by_cases hiq : i = q
      · subst hiq
        have hrm := hrem (l1 ++ p :: mid) l2 (by rw [hr]; simp)
        rw [List.append_assoc] at hrm
        obtain ⟨oi, hio, hdi, h⟩ := OkT.take (Region.noSelect_spec hsel) l1 S a w hST hS (fun j hj => hcm j (by have := hl1 j hj; omega) (hunl j hj) (.inl (by have := hl1 j hj; omega))) hB
        have hnext : ∀ S' a' w', (∀ w, S' w → Tm w) → S' w' → OkT P ops kd nb Tm N (l1 ++ p :: (mid ++ l2)) S' a' w' → Go.wpAnyIn (Fw r) 0 P .any ops Q fuel (listed.setIfInBounds i true) a' w' := fun S' a' w' hT' hS' h' =>
          OkT.any_goQ hN hok0 fuel _ S' a' w' (by simpa using hsz) (by rw [hrm]; rw [hr] at hlen; simp at hlen ⊢; omega) hdown' (.inr hset) hT' hS' (by rw [hrm]; exact h')
        rcases h with ⟨_, hw, h⟩ | ⟨v, hq, h⟩
        · exact OpVal.wpOpIn hio hdi hw (h.mono fun v w' ⟨S', _, hS', hT', h'⟩ => hnext S' _ _ hT' hS' h')
        · cases hw : Region.wanted oi (yielded ops a.tmps) with
          | true =>
            refine OpVal.wpOpIn hio hdi hw ?_
            unfold OpVal
            rw [hq.run hST hS hw]
            exact hnext S _ _ hST hS h
          | false =>
            unfold Go.wpOpIn
            simp only [hio, hw, Bool.false_eq_true, if_false]
            rcases hq with ⟨h1, _⟩ | ⟨_, rfl⟩
            · rw [hw] at h1; cases h1
            · exact ⟨fun _ _ => trivial, hnext S _ _ hST hS h⟩
      -- one ahead of the two: it is quiet
      have hil : i < p := by
        rcases Nat.lt_or_ge i p with h | h
        · exact h
        · exfalso
          have := hbit p (hlate i (by omega) hiq h1)
          rw [unl p (by omega) hpm] at this; cases this
      have hi1 : i ∈ l1 := by
        rw [hr] at hmem
        rcases List.mem_append.1 hmem with h | h
        · exact h
        · exfalso
          have hsorted : (rem ops listed).Pairwise (· < ·) := List.Pairwise.filter _ List.pairwise_lt_range
          rw [hr, List.pairwise_append] at hsorted
          have hp2 := (List.pairwise_cons.1 hsorted.2.1).1
          rcases List.mem_cons.1 h with h | h
          · omega
          · have := hp2 i h; omega
      obtain ⟨m1, m2, rfl⟩ := List.append_of_mem hi1
      have hrm := hrem m1 (m2 ++ p :: (mid ++ q :: l2)) (by rw [hr]; simp)
      have hsorted : (rem ops listed).Pairwise (· < ·) := List.Pairwise.filter _ List.pairwise_lt_range
      have hm1 : ∀ j ∈ m1, j < i := by
        intro j hj
        rw [hr] at hsorted
        simp only [List.append_assoc, List.cons_append] at hsorted
        rw [List.pairwise_append] at hsorted
        exact hsorted.2.2 j hj i (List.mem_cons_self ..)
      have hcA : ∀ j ∈ m1, commPair ops kd nb j i = true := fun j hj => hcm j (hm1 j hj) (hunl j (by simp [hj])) (.inr (by omega))
      have hA' : OkT P ops kd nb Tm N (m1 ++ i :: (m2 ++ p :: (mid ++ q :: l2))) S a w := by simpa using hA
      have hB' : OkT P ops kd nb Tm N (m1 ++ i :: (m2 ++ q :: p :: (mid ++ l2))) S a w := by simpa using hB
      obtain ⟨oi, hio, hdi, hA2⟩ := OkT.take (Region.noSelect_spec hsel) m1 S a w hST hS hcA hA'
      obtain ⟨oi', hio', _, hB2⟩ := OkT.take (Region.noSelect_spec hsel) m1 S a w hST hS hcA hB'
      rw [hio] at hio'; cases hio'
      rcases hA2 with ⟨h2', _⟩ | ⟨v, hq, hA3⟩
      · exact absurd h2' (hpk i hil)
      rcases hB2 with ⟨h2', _⟩ | ⟨v', hq', hB3⟩
      · exact absurd h2' (hpk i hil)
      have hvv := hq.same hq' hST hS
      subst hvv
      have hnext : Go.wpAnyIn (Fw r) 0 P .any ops Q fuel (listed.setIfInBounds i true) (a.put oi.dst v) w :=
        ih _ S _ w (m1 ++ m2) mid l2 (by simpa using hsz) (by rw [hrm]; rw [hr] at hlen; simp at hlen ⊢; omega) (by rw [hrm]; simp) (fun j hj => hl1 j (by
          rcases List.mem_append.1 hj with hj | hj <;> simp [hj])) hdown' hST hS (by simpa using hA3) (by simpa using hB3)
      cases hw : Region.wanted oi (yielded ops a.tmps) with
      | true =>
        refine OpVal.wpOpIn hio hdi hw ?_
        unfold OpVal
        rw [hq.run hST hS hw]
        exact hnext
      | false =>
        unfold Go.wpOpIn
        simp only [hio, hw, Bool.false_eq_true, if_false]
        rcases hq with ⟨h1, _⟩ | ⟨_, rfl⟩
        · rw [hw] at h1; cases h1
        · exact ⟨fun _ _ => trivial, hnext⟩
theorem OkT.appendA {R : List Nat} : ∀ (l : List Nat) (S : World → Prop) (a : Act) (w : World), (∀ i ∈ l, kd i = 2 → nb.contains i = true) → OkT P ops kd nb Tm N' l S a w → (∀ a w, N' a w → OkT P ops kd nb Tm N R S a w) → OkT P ops kd nb Tm N (l ++ R) S a w
  | [], S, a, w, _, h, k => k a w h
  | i :: l, S, a, w, hq, h, k => by
    obtain ⟨o, hi, hd, h⟩ := h
    have hq' : ∀ j ∈ l, kd j = 2 → nb.contains j = true := fun j hj => hq j (List.mem_cons_of_mem _ hj)
    rcases h with ⟨h2, hw, h⟩ | ⟨v, hv, h⟩
    · refine ⟨o, hi, hd, .inl ⟨h2, hw, h.mono fun v w' ⟨S', hS, hS', hT', h'⟩ => ?_⟩⟩
      rcases hS with hS | hS
      · rw [hq i (List.mem_cons_self ..) h2] at hS; cases hS
      · subst hS
        exact ⟨_, .inr rfl, hS', hT', OkT.appendA l _ _ _ hq' h' k⟩
    · exact ⟨o, hi, hd, .inr ⟨v, hv, OkT.appendA l S _ _ hq' h k⟩⟩
theorem OkT.extractA {p : Nat} {kd' : Nat → Nat} : ∀ (l : List Nat) (S : World → Prop) (a : Act) (w : World), (∀ i ∈ l, i < p ∧ kd' i = kd i) → (∀ i < p, ∀ o, ops[i]? = some o → o.guard = none) → OkT P (ops.extract 0 p) kd' nb Tm N l S a w → OkT P ops kd nb Tm N l S a w
  | [], S, a, w, _, _, h => h
  | i :: l, S, a, w, hq, hg, h => by
    obtain ⟨o, hi, hd, h⟩ := h
    obtain ⟨h1, h3⟩ := hq i (List.mem_cons_self ..)
    have hi' : ops[i]? = some o := by
      rw [Array.getElem?_extract] at hi
      split at hi
      · simpa using hi
      · cases hi
    have hgo := hg i h1 o hi'
    have hwt : ∀ y, Region.wanted o y = true := fun y => by unfold Region.wanted; rw [hgo]
    have hq' : ∀ j ∈ l, j < p ∧ kd' j = kd j := fun j hj => hq j (List.mem_cons_of_mem _ hj)
    rcases h with ⟨h4, _, h⟩ | ⟨v, hv, h⟩
    · exact ⟨o, hi', hd, .inl ⟨h3 ▸ h4, hwt _, h.mono fun v w' ⟨S', hS, hS', hT', h'⟩ => ⟨S', hS, hS', hT', OkT.extractA l _ _ _ hq' hg h'⟩⟩⟩
    · refine ⟨o, hi', hd, .inr ⟨v, ?_, OkT.extractA l S _ _ hq' hg h⟩⟩
      unfold Quiet at hv ⊢
      rw [hwt, h3] at hv
      rw [hwt]
      exact hv
end

section
variable {X : Cx} {ds : List Deferred} {ρ : Regs} {L : List HProp} {Q : Exit → Act → World → Prop} {ops : Array Oper}
def FrqQ (X : Cx) (ops : Array Oper) (nb : List Nat) (Q : Exit → Act → World → Prop) (p q : Nat) (Ls : List HProp) : Exit → Act → World → Prop := fun _ a w =>
  OkT X.P ops (kdf X.cv ops) nb (fun w => Sats X.w0 w []) (Q .normal) (p :: (List.range' (p + 1) (q - (p + 1)) ++ q :: List.range' (q + 1) (ops.size - (q + 1)))) (fun w => Sats X.w0 w Ls) a w ∧
    OkT X.P ops (kdf X.cv ops) nb (fun w => Sats X.w0 w []) (Q .normal) (q :: p :: (List.range' (p + 1) (q - (p + 1)) ++ List.range' (q + 1) (ops.size - (q + 1)))) (fun w => Sats X.w0 w Ls) a w
def LateQ (X : Cx) (ops : Array Oper) (nb : List Nat) (Q : Exit → Act → World → Prop) (q : Nat) (Ls : List HProp) : Exit → Act → World → Prop := fun _ a w =>
  OkT X.P ops (kdf X.cv ops) nb (fun w => Sats X.w0 w []) (Q .normal) (List.range' (q + 1) (ops.size - (q + 1))) (fun w => Sats X.w0 w Ls) a w
theorem cont_late {nb : List Nat} {q : Nat} {Ls : List HProp} {os : List Oper} (hos : ops.toList.drop (q + 1) = os) (h : OpsL X ops ⟨nb, [], []⟩ (Q .normal) (q + 1) os Ls ds ρ L) : Cont X (LateQ X ops nb Q q Ls) .normal ds ρ L := by
  refine foldCont fun a w ha hs => ?_
  unfold LateQ
  have hlen : List.range' (q + 1) (ops.size - (q + 1)) = List.range' (q + 1) os.length := by rw [← hos]; simp
  rw [hlen]
  unfold OpsL at h
  have := h hos a w ha hs
  simpa [kdS_nil] using this
theorem cont_forkQ {cv : List TypeId} (hcv : X.cv = cv) {nb : List Nat} {Ls : List HProp} {p q d2 : Nat} {t2 ty2 : TypeId} {pos2 : String} {af2 : Array Edge} {z2 : Value} {vs2 : List Value} {osA osB : List Oper} [I2 : Zr X.P t2 z2] (hpq : p < q) (hqs : Nat.blt q ops.size = true)
    (h2 : ops[q]? = some ⟨some d2, .alloc t2, ty2, pos2, af2, none⟩) (hosA : ops.toList.drop p = osA) (hosB : (ops.extract 0 q).toList.drop p = osB) (hv2 : z2.cells.toList = vs2) (hd2 : Nat.blt d2 X.nt = true) (hL : ∀ h, SatL L h → SatL Ls h)
    (hnb : (List.range q).all (fun i => kdf cv ops i != 2 || nb.contains i) = true) (hgd : (List.range q).all (fun i => ((ops[i]?).map (·.guard.isNone)).getD false) = true)
    (hA : OpsL X ops ⟨nb, [], []⟩ (Q .normal) p osA Ls ds ρ L)
    (hB : ∀ b2, OpsL X (ops.extract 0 q) ⟨nb, [], []⟩ (LateQ X ops nb Q q Ls .normal) p osB Ls ds (upd ρ d2 (.pointer (some ⟨b2, 0, none⟩))) (pts b2 (.cells vs2.toArray t2) :: L)) :
    Cont X (FrqQ X ops nb Q p q Ls) .normal ds ρ L := by
  subst hcv
  have hqs : q < ops.size := by simpa using hqs
  refine foldCont fun a w ha hs => ?_
  have hT : ∀ w, Sats X.w0 w Ls → Sats X.w0 w [] := fun _ h => h.map fun _ _ => trivial
  have he2 : ∀ (ρ : Regs) (L : List HProp), _ := fun ρ L => e_alloc (X := X) (ty := ty2) (ρ := ρ) (L := L) (d := d2) (t := t2) hv2
  have k2 : kdf X.cv ops q = 2 := by have := ((he2 ρ L).2 pos2 af2 none).1; simp [kdf, h2, this]
  unfold FrqQ
  constructor
  · have hlen : p :: (List.range' (p + 1) (q - (p + 1)) ++ q :: List.range' (q + 1) (ops.size - (q + 1))) = List.range' p osA.length := by
      have e0 : osA.length = ops.size - p := by rw [← hosA]; simp
      have e : osA.length = 1 + ((q - (p + 1)) + (1 + (ops.size - (q + 1)))) := by omega
      rw [e, ← List.range'_append_1, ← List.range'_append_1, ← List.range'_append_1]
      simp only [List.range'_one, List.singleton_append]
      have e1 : p + 1 + (q - (p + 1)) = q := by omega
      rw [e1]
    rw [hlen]
    unfold OpsL at hA
    have := hA hosA a w ha hs
    simpa [kdS_nil] using this
  · refine ⟨_, h2, (he2 ρ L).1, .inl ⟨k2, rfl, ?_⟩⟩
    rw [ha.eval]
    refine (((he2 ρ L).2 pos2 af2 none).2 w hs).mono ?_
    rintro u w1 ⟨b2, _, rfl, hs1⟩
    refine ⟨_, .inr rfl, hs1.map fun _ s => hL _ s.tail, hT, ?_⟩
    have ha1 := ha.put (d := d2) (by simpa using hd2) (.pointer (some ⟨b2, 0, none⟩))
    have hB := hB b2
    unfold OpsL at hB
    have hw := hB hosB _ w1 ha1 hs1
    rw [kdS_nil] at hw
    have hszB : osB.length = q - p := by rw [← hosB]; simp; omega
    rw [hszB] at hw
    have hkd : ∀ i < q, kdf X.cv (ops.extract 0 q) i = kdf X.cv ops i := fun i hi => by
      simp only [kdf, Array.getElem?_extract]
      rw [if_pos (by omega)]
      simp
    have hg : ∀ i < q, ∀ o, ops[i]? = some o → o.guard = none := fun i hi o ho => by
      have := List.all_eq_true.1 hgd i (List.mem_range.2 hi)
      rw [ho] at this
      simpa using this
    have hin : ∀ i ∈ List.range' p (q - p), i < q := fun i hi => by have := List.mem_range'.1 hi; obtain ⟨k, hk, rfl⟩ := this; omega
    have hx := OkT.extractA (p := q) (kd := kdf X.cv ops) _ _ _ _ (fun i hi => ⟨hin i hi, hkd i (hin i hi)⟩) hg hw
    have hap := OkT.appendA (R := List.range' (q + 1) (ops.size - (q + 1))) (N := Q .normal) _ _ _ _ (fun i hi h2 => by
      have := List.all_eq_true.1 hnb i (List.mem_range.2 (hin i hi))
      simpa [h2] using this) hx (fun a' w' hf => hf)
    have e : p :: (List.range' (p + 1) (q - (p + 1)) ++ List.range' (q + 1) (ops.size - (q + 1))) = List.range' p (q - p) ++ List.range' (q + 1) (ops.size - (q + 1)) := by
      have e1 : q - p = 1 + (q - (p + 1)) := by omega
      rw [e1, ← List.range'_append_1]
      simp
    rw [e]
    exact hap
def forkOkQ (ops : Array Oper) (cv : List TypeId) (p q : Nat) : Bool :=
  Nat.blt q ops.size && (List.range p).all (fun i => kdf cv ops i != 2 && ((ops[i]?).map (·.guard.isNone)).getD false) && (List.range ops.size).all fun i => Nat.ble i p || i == q || ((Region.before ops).getD i 0).testBit p
theorem ok_draw_forkQ (p q : Nat) (nb : List Nat) (Ls : List HProp) {id : Nat} {cv : List TypeId} (hpq : p < q) (hm : X.P.follows .mixedOrders = true) (hcv : X.cv = cv) (hok : regionOkTQ ops (kdf cv ops) nb (Region.before ops) p q = true) (hfk : forkOkQ ops cv p q = true) (hsub : ∀ h, SatL L h → SatL Ls h)
    (h : OpsL X (ops.extract 0 p) ⟨nb, [], []⟩ (FrqQ X ops nb Q p q Ls .normal) 0 (ops.toList.take p) Ls ds ρ L) : Ok X (.region id ops true) ds ρ L Q := by
  subst hcv
  simp only [forkOkQ, Bool.and_eq_true, List.all_eq_true, List.mem_range, Bool.or_eq_true, bne_iff_ne, beq_iff_eq] at hfk
  obtain ⟨⟨h1, h2⟩, h3⟩ := hfk
  have hps : q < ops.size := by simpa using h1
  have hpk : ∀ i < p, kdf X.cv ops i ≠ 2 := fun i hi => (h2 i hi).1
  have hg : ∀ i < p, ∀ o, ops[i]? = some o → o.guard = none := fun i hi o ho => by
    have := (h2 i hi).2
    rw [ho] at this
    simpa using this
  have hkd : ∀ i < p, kdf X.cv (ops.extract 0 p) i = kdf X.cv ops i := fun i hi => by
    simp only [kdf, Array.getElem?_extract]
    rw [if_pos (by omega)]
    simp
  have hlate : ∀ i, p < i → i ≠ q → i < ops.size → ((Region.before ops).getD i 0).testBit p = true := fun i hi hne his => by
    rcases h3 i his with (h | h) | h
    · have : i ≤ p := by simpa using h
      omega
    · exact absurd h hne
    · exact h
  refine foldOk fun a w ha hs => wpIn_region_any hm ?_
  have hw := h
  unfold OpsL at hw
  have hw := hw (by simp) a _ ha hs.drew
  rw [kdS_nil] at hw
  have hsz : (ops.toList.take p).length = p := by simp; omega
  rw [hsz] at hw
  have hx := OkT.extract (p := p) (kd := kdf X.cv ops) _ _ _ _ (fun i hi => by
    have : i < p := by have := List.mem_range'.1 hi; obtain ⟨k, hk, rfl⟩ := this; omega
    exact ⟨this, hpk i this, hkd i this⟩) hg hw
  have hq : ∀ i ∈ List.range' 0 p, kdf X.cv ops i ≠ 2 := fun i hi => hpk i (by have := List.mem_range'.1 hi; obtain ⟨k, hk, rfl⟩ := this; omega)
  have hA := OkT.append (R := p :: (List.range' (p + 1) (q - (p + 1)) ++ q :: List.range' (q + 1) (ops.size - (q + 1)))) (N := Q .normal) _ _ _ _ hq hx (fun a' hf => hf.1)
  have hB := OkT.append (R := q :: p :: (List.range' (p + 1) (q - (p + 1)) ++ List.range' (q + 1) (ops.size - (q + 1)))) (N := Q .normal) _ _ _ _ hq hx (fun a' hf => hf.2)
  have hr0 : rem ops (Array.replicate ops.size false) = List.range ops.size := by
    unfold rem
    rw [List.filter_eq_self]
    intro i hi
    have := List.mem_range.1 hi
    simp [this]
  have hr : rem ops (Array.replicate ops.size false) = List.range' 0 p ++ p :: (List.range' (p + 1) (q - (p + 1)) ++ q :: List.range' (q + 1) (ops.size - (q + 1))) := by
    rw [hr0, List.range_eq_range']
    have e : ops.size = p + (1 + ((q - (p + 1)) + (1 + (ops.size - (q + 1))))) := by omega
    conv => lhs; rw [e]
    rw [← List.range'_append_1, ← List.range'_append_1, ← List.range'_append_1, ← List.range'_append_1]
    have e1 : 0 + p + 1 + (q - (p + 1)) = q := by omega
    rw [e1]
    simp [List.range'_one]
  refine OkT.any_goQ2 (fun _ _ h => h) hpq hok hpk hlate hps ops.size _ (fun w => Sats X.w0 w Ls) a _ _ _ _ (by simp) (by rw [hr0]; simp) hr (fun i hi => by have := List.mem_range'.1 hi; obtain ⟨k, hk, rfl⟩ := this; omega) (fun i hi m _ => ?_) (fun w (h : Sats X.w0 w Ls) => (show Sats X.w0 w [] from h.map fun _ _ => trivial)) (hs.drew.map hsub) hA hB
  exfalso
  rcases Nat.lt_or_ge i ops.size with h1 | h1
  · simp [h1] at hi
  · simp [Array.getD] at hi
end
end Go.Fx
