/- Texts merged: RnG RnH. -/
import Derived.Test.YtgmobpngcilgjaaRnY
/- The walks of package run: pairs, Scan. -/
-- @DEFS Z
set_option linter.unusedSimpArgs false
set_option linter.unusedVariables false
set_option maxRecDepth 4000
namespace Go.Proofs.Ytgmobpngcilgjaa
open Go Go.Fx Go.Proofs Go.Pl

theorem row_shape {e n : Nat} {v : Value} {xs : List (List Value)} {L R : List HProp} (hn : 0 < n) (t : Take L [row e n v xs] R) (h : Frag) (s : SatL L h) : ∃ p c, v = .slice p xs.length c ∧ xs.length ≤ c := by
  obtain ⟨h1, _, _, _, _, hr, _⟩ := t.out s
  obtain ⟨p, c, rfl⟩ : ∃ p c, v = .slice p xs.length c := by
    obtain ⟨_, (⟨rfl, rfl⟩ | ⟨b, c, _, rfl, _⟩)⟩ := hr
    · exact ⟨none, 0, rfl⟩
    · exact ⟨_, c, rfl⟩
  exact ⟨p, c, rfl, row_cap hn hr⟩
theorem dropV_shape (n : Nat) (p : Option Addr) (len c m : Nat) : ∃ p', dropV n p len c m = .slice p' (len - m) (c - m) := ⟨_, rfl⟩

def posR (es : List En) (key : BA) : Nat := (es.takeWhile fun x => ltS x.p.k key).length
theorem posR_le (es : List En) (key : BA) : posR es key ≤ es.length := (List.takeWhile_prefix _).length_le
theorem At.pos {es : List En} {key : BA} {i : Nat} {is : Bool} (h : At es key i is) : i = posR es key := by
  have hle := h.le
  have hlo := h.lo
  have hhi := h.hi
  clear h
  unfold posR
  induction es generalizing i with
  | nil => simp at hle; simp [hle]
  | cons x es ih =>
    cases i with
    | zero =>
      have := hhi 0 (by simp) (Nat.le_refl _)
      rw [List.takeWhile_cons, show ltS x.p.k key = false from this]; rfl
    | succ i =>
      have h0 := hlo 0 (by simp) (by omega)
      rw [List.takeWhile_cons, show ltS x.p.k key = true from h0]
      simp only [if_true, List.length_cons]
      rw [ih (i := i) (by simpa using hle) (fun t ht hti => hlo (t + 1) (by simpa using ht) (by omega)) (fun t ht hti => hhi (t + 1) (by simpa using ht) (by omega))]

def endR (to : BA) (x : En) : Bool := !(to.toList == (⟨#[]⟩ : BA).toList) && !(ltS x.p.k to)
/-- What is handed on. -/
def yR (rd : En → Pr × Int) (to : BA) : List En → List (Pr × Int)
  | [] => []
  | x :: l => if endR to x then [] else if (rd x).2 ≠ 0 then [rd x] else rd x :: yR rd to l
def yrV (y : Pr × Int) : List Value := [.agg (prV y.1).toArray, .int .i64 y.2]

theorem pairs_spec (rb : Nat) (fr to : BA) : FSpec Try.prog 112 [.pointer (some ⟨rb, 0, none⟩), .string fr, .string to] [] (Nat × Nat × Nat) (fun _ => True) (fun y => .func (.func 147) #[] [.pointer (some ⟨y.1, 0, none⟩), .pointer (some ⟨y.2.1, 0, none⟩), .pointer (some ⟨y.2.2, 0, none⟩)].toArray)
    (fun y => [pts y.1 (.cells [.pointer (some ⟨rb, 0, none⟩)].toArray 82), pts y.2.1 (.cells [.string fr].toArray 9), pts y.2.2 (.cells [.string to].toArray 9)]) := by
  refine spec_intro [] _ Try.func112 rfl Try.ntmps112 (by rfl) (fun w0 R => ?_)
  repeat' (first | (refine go_Z ?_; intros) | (refine gs_Z ?_ ?_ <;> (intro hgd; try (simp only [Bool.not_true, Bool.not_false] at hgd))) | (refine gc_Z ?_ ?_ <;> intro _) | fail)
  rename_i b3 b4 b5
  (refine rt_Z (y := (b3, b4, b5)) (hrs := Try.results112) (hv := ?_) (hφ := ?_))
  · rfl
  · trivial

theorem pairs1_spec (b3 b4 b5 rb b : Nat) (fr to nm : BA) (v : Value) (sz : Int) (es : List En) (D : HProp) (rd : En → Pr × Int) (hs : Sorted (es.map (·.p))) (hz : es.length ≤ 1099511627776)
    (hrd : ∀ x ∈ es, FSpec Try.prog 111 [.pointer (some ⟨rb, 0, none⟩), .agg (enV x).toArray] [rnP rb b nm v sz, D] Unit (fun _ => True) (fun _ => .tuple #[.agg (prV (rd x).1).toArray, .int .i64 (rd x).2]) (fun _ => [rnP rb b nm v sz, D])) :
    IterSpec Try.prog 147 [.pointer (some ⟨b3, 0, none⟩), .pointer (some ⟨b4, 0, none⟩), .pointer (some ⟨b5, 0, none⟩)]
      [pts b3 (.cells [.pointer (some ⟨rb, 0, none⟩)].toArray 82), pts b4 (.cells [.string fr].toArray 9), pts b5 (.cells [.string to].toArray 9), rnP rb b nm v sz, enP v es, D] (yR rd to (es.drop (posR es fr))) yrV := by
  intro yv St Sp go hy
  have hle := posR_le es fr
  have hlen : (es.map enV).length = es.length := by simp
  have hple : posR es fr ≤ (es.map enV).length := by omega
  have hf := find_spec rb b nm v sz es fr hs hz
  unfold rnP rnV at *
  refine spec_intro [] _ Try.func147 rfl Try.ntmps147 (by rfl) (fun w0 R => ?_)
  refine ok_learn (row_shape (e := 165) (n := 5) (v := v) (xs := es.map enV) (by decide) takeD) ?_
  rintro ⟨pv, cv, rfl, hcv⟩
  have hdr : Vw (enP (.slice pv (es.map enV).length cv) es) 5 (dropV 5 pv (es.map enV).length cv (posR es fr)) ((es.drop (posR es fr)).map enV) := by
    rw [List.map_drop]; exact Vw.drop Vw.row hcv
  obtain ⟨p', hdv⟩ := dropV_shape 5 pv (es.map enV).length cv (posR es fr)
  have hrl : (es.map enV).length - posR es fr = (es.drop (posR es fr)).length := by rw [List.length_drop, hlen]
  rw [hrl] at hdv
  rw [hdv] at hdr
  have hmemd : ∀ x ∈ es.drop (posR es fr), x ∈ es := fun x hx => List.mem_of_mem_drop hx
  have hposi : ∀ i is, At es fr i is → i = posR es fr := fun i is h => h.pos
  repeat' (first | (refine go_Z ?_; intros) | (refine gs_Z ?_ ?_ <;> (intro hgd; try (simp only [Bool.not_true, Bool.not_false] at hgd))) | (refine gc_Z ?_ ?_ <;> intro _) | fail)
  refine cl_Z (hf) ?_
  rintro ⟨i, is⟩ hat
  have := hposi i is hat
  subst this
  dsimp only
  repeat' (first | (refine go_Z ?_; intros) | (refine gs_Z ?_ ?_ <;> (intro hgd; try (simp only [Bool.not_true, Bool.not_false] at hgd))) | (refine gc_Z ?_ ?_ <;> intro _) | fail)
  rw [hdv, hrl]
  have hrz : (es.drop (posR es fr)).length ≤ 1099511627776 := by rw [List.length_drop]; omega
  generalize (es.drop (posR es fr)) = rest at hrz hdr hmemd hy ⊢
  generalize (cv - posR es fr) = c' at hdr ⊢
  generalize (posR es fr) = ps at hple ⊢
  have hrlen : (rest.map enV).length = rest.length := by simp
  refine ok_map (L' := [pts b3 (.cells [.pointer (some ⟨rb, 0, none⟩)].toArray 82), pts b4 (.cells [.string fr].toArray 9), pts b5 (.cells [.string to].toArray 9), pts rb (.cells [.pointer (some ⟨b, 0, none⟩), .string nm, .slice pv (es.map enV).length cv, .int .i64 sz].toArray 168), enP (.slice pv (es.map enV).length cv) es, D, St []] ++ R) entD ?_
  refine ok_loop' (γ := Nat × List (Pr × Int)) (fun g ρ L => g.1 ≤ rest.length ∧ g.2 ++ yR rd to (rest.drop g.1) = yR rd to rest ∧ eat go [] (yR rd to rest) = eat go g.2 (yR rd to (rest.drop g.1)) ∧ Knows ρ [(0, yv), (1, .pointer (some ⟨b3, 0, none⟩)), (3, .pointer (some ⟨b5, 0, none⟩)), (22, .slice p' rest.length c'), (23, .int .i64 rest.length), (24, .int .i64 g.1)] ∧
      L = [pts b3 (.cells [.pointer (some ⟨rb, 0, none⟩)].toArray 82), pts b4 (.cells [.string fr].toArray 9), pts b5 (.cells [.string to].toArray 9), pts rb (.cells [.pointer (some ⟨b, 0, none⟩), .string nm, .slice pv (es.map enV).length cv, .int .i64 sz].toArray 168), enP (.slice pv (es.map enV).length cv) es, D, St g.2] ++ R) (fun g => rest.length - g.1) (0, []) ⟨by simp, by simp, by simp, ⟨rfl, rfl, rfl, rfl, rfl, rfl, trivial⟩, rfl⟩ ?_
  rintro ⟨t, pre⟩ ρ L ⟨ht, h1, h2, hk, rfl⟩
  dsimp only at ht h1 h2 hk ⊢
  refine ok_regs hk ?_
  cases t1 : decide ((t : Int) < (rest.length : Int)) with
  | false =>
    have hte : t = rest.length := by simp at t1; omega
    have hdn : rest.drop t = [] := by rw [hte]; exact List.drop_length
    rw [h2, hdn, show yR rd to [] = [] from rfl, show eat go pre [] = (pre, true) from rfl]
    simp only [if_true]
    repeat' (first | (refine go_Z ?_; intros) | (refine gs_Z ?_ ?_ <;> (intro hgd; try (simp only [Bool.not_true, Bool.not_false] at hgd))) | (refine gc_Z ?_ ?_ <;> intro _) | fail)
    (refine rt_Z (y := ()) (hrs := Try.results147) (hv := ?_) (hφ := ?_))
    · rfl
    · trivial
  | true =>
    have htl : t < rest.length := by simpa using t1
    have hn1 : t < (rest.map enV).length := by omega
    have hx : (rest.map enV)[t]? = some (enV rest[t]) := by rw [List.getElem?_map, List.getElem?_eq_getElem htl]; rfl
    have hdx : rest.drop t = rest[t] :: rest.drop (t + 1) := List.drop_eq_getElem_cons htl
    have hrx := hrd _ (hmemd _ (List.getElem_mem htl))
    refine ok_learn (VwIn.base (VwIn.there (VwIn.there (VwIn.there (VwIn.there (VwIn.here hdr))))) (by intro e; rw [e] at hn1; simp at hn1)) ?_
    rintro ⟨bu, ou, rfl⟩
    rw [hdx] at h1 h2
    generalize rest[t] = x at hx h1 h2 hrx
    have hyc : yR rd to (x :: rest.drop (t + 1)) = if endR to x then [] else if (rd x).2 ≠ 0 then [rd x] else rd x :: yR rd to (rest.drop (t + 1)) := rfl
    have hend : endR to x = (!(to.toList == (⟨#[]⟩ : BA).toList) && !(Op.bytesLess x.p.k.toList to.toList)) := rfl
    have hgo2 : endR to x = false → ∀ (G : Prop), ((!(to.toList == (⟨#[]⟩ : BA).toList)) = false → G) → ((!(to.toList == (⟨#[]⟩ : BA).toList)) = true → (!(Op.bytesLess x.p.k.toList to.toList)) = false → G) → G := by
      intro h0 G g1 g2
      rw [hend] at h0
      cases q1 : (!(to.toList == (⟨#[]⟩ : BA).toList)) with
      | false => exact g1 q1
      | true => rw [q1, Bool.true_and] at h0; exact g2 q1 h0
    cases he : endR to x with
    | true =>
      rw [hend, Bool.and_eq_true] at he
      obtain ⟨q1, q2⟩ := he
      rw [h2, hyc, show endR to x = true by rw [hend, q1, q2]; rfl, if_pos rfl, show eat go pre [] = (pre, true) from rfl]
      simp only [if_true]
      obtain ⟨⟨kx, vx, gx⟩, ax, nx⟩ := x
      dsimp only [enV] at *
      repeat' (first | (refine go_Z ?_; intros) | (refine gs_Z ?_ ?_ <;> (intro hgd; try (simp only [Bool.not_true, Bool.not_false] at hgd))) | (refine gc_Z ?_ ?_ <;> intro _) | fail)
      (refine rt_Z (y := ()) (hrs := Try.results147) (hv := ?_) (hφ := ?_))
      · rfl
      · trivial
    | false =>
      have hgo2 := hgo2 he
      rw [hyc, he, if_neg (by simp)] at h1 h2
      have hpre : pre ++ [rd x] <+: yR rd to rest := by
        rw [← h1]
        split
        · exact List.prefix_rfl
        · exact ⟨_, by rw [List.append_assoc]; rfl⟩
      have hv := hy pre (rd x) hpre
      generalize rd x = r at h1 h2 hv hrx
      obtain ⟨p, e⟩ := r
      dsimp only at h1 h2 hv hrx
      unfold yrV at hv
      dsimp only at hv
      obtain ⟨⟨kx, vx, gx⟩, ax, nx⟩ := x
      dsimp only [enV, prV] at *
      cases hg : go (pre ++ [(p, e)]) with
      | false =>
        rw [hg] at hv
        have hx2 : eat go pre (if e ≠ 0 then [(p, e)] else (p, e) :: yR rd to (rest.drop (t + 1))) = (pre ++ [(p, e)], false) := by split <;> simp [eat, hg]
        rw [h2, hx2]
        refine hgo2 _ (fun q1 => ?_) (fun q1 q2 => ?_)
        all_goals
          repeat' (first | (refine go_Z ?_; intros) | (refine gs_Z ?_ ?_ <;> (intro hgd; try (simp only [Bool.not_true, Bool.not_false] at hgd))) | (refine gc_Z ?_ ?_ <;> intro _) | fail)
          refine cl_Z (hrx) ?_
          intro _ _
          repeat' (first | (refine go_Z ?_; intros) | (refine gs_Z ?_ ?_ <;> (intro hgd; try (simp only [Bool.not_true, Bool.not_false] at hgd))) | (refine gc_Z ?_ ?_ <;> intro _) | fail)
          refine clV_Z (hv) ?_
          intro _ _
          repeat' (first | (refine go_Z ?_; intros) | (refine gs_Z ?_ ?_ <;> (intro hgd; try (simp only [Bool.not_true, Bool.not_false] at hgd))) | (refine gc_Z ?_ ?_ <;> intro _) | fail)
          (refine rt_Z (y := ()) (hrs := Try.results147) (hv := ?_) (hφ := ?_))
          · rfl
          · trivial
      | true =>
        rw [hg] at hv
        cases u1 : (!decide (e = 0)) with
        | true =>
          have u2 : e ≠ 0 := by simpa using u1
          have hx2 : eat go pre (if e ≠ 0 then [(p, e)] else (p, e) :: yR rd to (rest.drop (t + 1))) = (pre ++ [(p, e)], true) := by rw [if_pos u2]; simp [eat, hg]
          rw [h2, hx2]
          refine hgo2 _ (fun q1 => ?_) (fun q1 q2 => ?_)
          all_goals
            repeat' (first | (refine go_Z ?_; intros) | (refine gs_Z ?_ ?_ <;> (intro hgd; try (simp only [Bool.not_true, Bool.not_false] at hgd))) | (refine gc_Z ?_ ?_ <;> intro _) | fail)
            refine cl_Z (hrx) ?_
            intro _ _
            repeat' (first | (refine go_Z ?_; intros) | (refine gs_Z ?_ ?_ <;> (intro hgd; try (simp only [Bool.not_true, Bool.not_false] at hgd))) | (refine gc_Z ?_ ?_ <;> intro _) | fail)
            refine clV_Z (hv) ?_
            intro _ _
            repeat' (first | (refine go_Z ?_; intros) | (refine gs_Z ?_ ?_ <;> (intro hgd; try (simp only [Bool.not_true, Bool.not_false] at hgd))) | (refine gc_Z ?_ ?_ <;> intro _) | fail)
            (refine rt_Z (y := ()) (hrs := Try.results147) (hv := ?_) (hφ := ?_))
            · rfl
            · trivial
        | false =>
          have u2 : e = 0 := by simpa using u1
          subst u2
          rw [if_neg (by simp)] at h1 h2
          refine hgo2 _ (fun q1 => ?_) (fun q1 q2 => ?_)
          all_goals
            repeat' (first | (refine go_Z ?_; intros) | (refine gs_Z ?_ ?_ <;> (intro hgd; try (simp only [Bool.not_true, Bool.not_false] at hgd))) | (refine gc_Z ?_ ?_ <;> intro _) | fail)
            refine cl_Z (hrx) ?_
            intro _ _
            repeat' (first | (refine go_Z ?_; intros) | (refine gs_Z ?_ ?_ <;> (intro hgd; try (simp only [Bool.not_true, Bool.not_false] at hgd))) | (refine gc_Z ?_ ?_ <;> intro _) | fail)
            refine clV_Z (hv) ?_
            intro _ _
            repeat' (first | (refine go_Z ?_; intros) | (refine gs_Z ?_ ?_ <;> (intro hgd; try (simp only [Bool.not_true, Bool.not_false] at hgd))) | (refine gc_Z ?_ ?_ <;> intro _) | fail)
            rw [if_pos rfl]
            refine cont_map (L' := [pts b3 (.cells [.pointer (some ⟨rb, 0, none⟩)].toArray 82), pts b4 (.cells [.string fr].toArray 9), pts b5 (.cells [.string to].toArray 9), pts rb (.cells [.pointer (some ⟨b, 0, none⟩), .string nm, .slice pv (es.map enV).length cv, .int .i64 sz].toArray 168), enP (.slice pv (es.map enV).length cv) es, D, St (pre ++ [(p, (0 : Int))])] ++ R) entD ?_
            refine cont_back (t + 1, pre ++ [(p, 0)]) ⟨htl, by dsimp only; rw [← h1, List.append_assoc]; rfl, by dsimp only; rw [h2]; simp [eat, hg], ⟨rfl, rfl, rfl, rfl, rfl, rfl, trivial⟩, rfl⟩ (by dsimp only; omega)
end Go.Proofs.Ytgmobpngcilgjaa
/- The walk of run.Scan. -/
-- @DEFS Z
set_option linter.unusedSimpArgs false
set_option linter.unusedVariables false
set_option maxRecDepth 4000
namespace Go.Proofs.Ytgmobpngcilgjaa
open Go Go.Fx Go.Proofs Go.Pl

def errR (q : List (Pr × Int)) : Int := match q.getLast? with | some y => y.2 | none => 0
def colR (q : List (Pr × Int)) : List Pr := if errR q ≠ 0 then [] else q.map (·.1)
def goR (most : Int) (q : List (Pr × Int)) : Bool := decide (errR q = 0) && !decide ((q.length : Int) = most)
def jpR (q : List (Pr × Int)) : Code := if errR q ≠ 0 then .ret else .exit 1
theorem errR_snoc (pre : List (Pr × Int)) (y : Pr × Int) : errR (pre ++ [y]) = y.2 := by unfold errR; rw [List.getLast?_concat]
theorem errR_ok {q : List (Pr × Int)} (h : ∀ y ∈ q, y.2 = 0) : errR q = 0 := by
  unfold errR
  cases hq : q.getLast? with
  | none => rfl
  | some y => exact h y (List.mem_of_getLast? hq)
theorem colR_ok {q : List (Pr × Int)} (h : ∀ y ∈ q, y.2 = 0) : colR q = q.map (·.1) := by unfold colR; rw [errR_ok h, if_neg (by simp)]
theorem yR_pre {rd : En → Pr × Int} {to : BA} : ∀ {l : List En} {pre : List (Pr × Int)} {y : Pr × Int}, pre ++ [y] <+: yR rd to l → ∀ z ∈ pre, z.2 = 0
  | [], pre, y, h => by
    have := h.length_le
    simp [yR] at this
  | x :: l, pre, y, h => by
    unfold yR at h
    split at h
    · have := h.length_le; simp at this
    · split at h
      · have h1 := h.length_le
        simp at h1
        subst h1
        simp
      · rename_i h2
        cases pre with
        | nil => simp
        | cons z pre =>
          rw [List.cons_append, List.cons_prefix_cons] at h
          intro w hw
          rcases List.mem_cons.1 hw with rfl | hw
          · rw [h.1]; simpa using h2
          · exact yR_pre h.2 w hw
theorem yR_len {rd : En → Pr × Int} {to : BA} : ∀ (l : List En), (yR rd to l).length ≤ l.length
  | [] => Nat.le_refl _
  | x :: l => by
    unfold yR
    split
    · simp
    · split
      · simp
      · have := yR_len (rd := rd) (to := to) l; simp; omega
theorem eat_goR {most : Int} : ∀ (l pre : List (Pr × Int)), (eat (goR most) pre l).2 = true → (∀ y ∈ pre, y.2 = 0) → ∀ y ∈ pre ++ l, y.2 = 0
  | [], pre, _, h => by simpa using h
  | x :: l, pre, h, hp => by
    rw [eat_cons] at h
    cases hg : goR most (pre ++ [x]) with
    | false => rw [hg] at h; cases h
    | true =>
      rw [hg, if_pos rfl] at h
      have h0 : x.2 = 0 := by
        unfold goR at hg
        rw [errR_snoc, Bool.and_eq_true, decide_eq_true_eq] at hg
        exact hg.1
      have := eat_goR l (pre ++ [x]) h (fun y hy => by
        rcases List.mem_append.1 hy with hy | hy
        · exact hp y hy
        · rw [List.mem_singleton] at hy; subst hy; exact h0)
      rw [List.append_assoc] at this
      exact this

def prS (b : Nat) (xs : List Pr) : HProp := exP fun v : { v : Value // v.oneCell' = true } => [pts b (.cells [v.1].toArray 25), row 23 3 v.1 (xs.map prV)]
theorem prS_in {b : Nat} {v : Value} {xs : List Pr} (hv : v.oneCell' = true) {L : List HProp} {h : Frag} (s : SatL (pts b (.cells [v].toArray 25) :: row 23 3 v (xs.map prV) :: L) h) : SatL (prS b xs :: L) h :=
  ex_in (M := fun v : { v : Value // v.oneCell' = true } => [pts b (.cells [v.1].toArray 25), row 23 3 v.1 (xs.map prV)]) ⟨v, hv⟩ rfl s

theorem rScan_few (rb : Nat) (fr to : BA) (most : Int) (hm : most < 1) : FSpec Try.prog 56 [.pointer (some ⟨rb, 0, none⟩), .string fr, .string to, .int .i64 most] [] Unit (fun _ => True) (fun _ => .tuple #[.slice none 0 0, .int .i64 0]) (fun _ => []) := by
  have t1 : decide (most < 1) = true := by simpa using hm
  refine spec_intro [] _ Try.func56 rfl Try.ntmps56 (by rfl) (fun w0 R => ?_)
  repeat' (first | (refine go_Z ?_; intros) | (refine gs_Z ?_ ?_ <;> (intro hgd; try (simp only [Bool.not_true, Bool.not_false] at hgd))) | (refine gc_Z ?_ ?_ <;> intro _) | fail)
  (refine rt_Z (y := ()) (hrs := Try.results56) (hv := ?_) (hφ := ?_))
  · rfl
  · trivial

theorem rScan_spec (rb b : Nat) (fr to nm : BA) (v : Value) (sz : Int) (es : List En) (D : HProp) (rd : En → Pr × Int) (most : Int) (hm : 1 ≤ most) (hs : Sorted (es.map (·.p))) (hz : es.length ≤ 1099511627776)
    (hrd : ∀ x ∈ es, FSpec Try.prog 111 [.pointer (some ⟨rb, 0, none⟩), .agg (enV x).toArray] [rnP rb b nm v sz, D] Unit (fun _ => True) (fun _ => .tuple #[.agg (prV (rd x).1).toArray, .int .i64 (rd x).2]) (fun _ => [rnP rb b nm v sz, D])) :
    FSpec Try.prog 56 [.pointer (some ⟨rb, 0, none⟩), .string fr, .string to, .int .i64 most] [rnP rb b nm v sz, enP v es, D] { v : Value // v.oneCell' = true } (fun _ => True)
      (fun y => .tuple #[y.1, .int .i64 (errR (eat (goR most) [] (yR rd to (es.drop (posR es fr)))).1)]) (fun y => [rnP rb b nm v sz, enP v es, D, row 23 3 y.1 ((colR (eat (goR most) [] (yR rd to (es.drop (posR es fr)))).1).map prV)]) := by
  have t1 : decide (most < 1) = false := by simp; omega
  have hxl : (yR rd to (es.drop (posR es fr))).length ≤ es.length := by
    have := yR_len (rd := rd) (to := to) (es.drop (posR es fr))
    rw [List.length_drop] at this; omega
  have hyp := fun pre y => yR_pre (rd := rd) (to := to) (l := es.drop (posR es fr)) (pre := pre) (y := y)
  refine spec_intro [] _ Try.func56 rfl Try.ntmps56 (by rfl) (fun w0 R => ?_)
  repeat' (first | (refine go_Z ?_; intros) | (refine gs_Z ?_ ?_ <;> (intro hgd; try (simp only [Bool.not_true, Bool.not_false] at hgd))) | (refine gc_Z ?_ ?_ <;> intro _) | fail)
  rename_i b7 b8 b9
  refine cl_Z (pairs_spec rb fr to) ?_
  rintro ⟨b3, b4, b5⟩ _
  dsimp only
  repeat' (first | (refine go_Z ?_; intros) | (refine gs_Z ?_ ?_ <;> (intro hgd; try (simp only [Bool.not_true, Bool.not_false] at hgd))) | (refine gc_Z ?_ ?_ <;> intro _) | fail)
  have hit := pairs1_spec b3 b4 b5 rb b fr to nm v sz es D rd hs hz hrd
  generalize yR rd to (es.drop (posR es fr)) = ys at hxl hyp hit ⊢
  refine ok_map (fun _ h => prS_in (xs := []) (v := .slice none 0 0) (b := b8) rfl (Take.out2 takeD (rowNil (e := 23) (n := 3) h))) ?_
  refine ok_range (goR most) (fun q => [prS b8 (colR q), pts b9 (.cells [.int .i64 (errR q)].toArray 30), pts b7 (.cells [.int .i64 most].toArray 3)]) jpR hit rfl rfl takeD (R' := R) entD (fun _ => rfl) (by rfl) ?_ ?_ ?_
  · intro l pre y hp w1 R1 LP0 LP1 QB QE hB hN hE hR
    have hpl := hp.length_le
    rw [List.length_append] at hpl
    have hall := hyp pre y hp
    have hcp := colR_ok hall
    have hep := errR_ok hall
    obtain ⟨p, e⟩ := y
    have hes := errR_snoc pre (p, e)
    dsimp only at hes ⊢
    rw [hcp, hep]
    unfold yrV
    dsimp only
    cases u1 : (!decide (e = 0)) with
    | true =>
      have u2 : e ≠ 0 := by simpa using u1
      have hgo : goR most (pre ++ [(p, e)]) = false := by unfold goR; rw [hes]; simp [u2]
      have hj : jpR (pre ++ [(p, e)]) = .ret := by unfold jpR; rw [hes, if_pos u2]
      have hc : colR (pre ++ [(p, e)]) = [] := by unfold colR; rw [hes, if_pos u2]
      dsimp only at hR
      rw [hes, hc] at hR
      repeat' (first | (refine go_Z ?_; intros) | (refine gs_Z ?_ ?_ <;> (intro hgd; try (simp only [Bool.not_true, Bool.not_false] at hgd))) | (refine gc_Z ?_ ?_ <;> intro _) | fail)
      (refine hB takeD ?_)
      (refine ok_ex selD ?_)
      rintro ⟨v1, hv1⟩
      dsimp only
      repeat' (first | (refine go_Z ?_; intros) | (refine gs_Z ?_ ?_ <;> (intro hgd; try (simp only [Bool.not_true, Bool.not_false] at hgd))) | (refine gc_Z ?_ ?_ <;> intro _) | fail)
      refine cont_map (fun _ h => rowNil (e := 23) (n := 3) h) ?_
      refine cont_map (fun _ h => prS_in (xs := []) (v := .slice none 0 0) (b := b8) rfl (Take.out2 takeD h)) ?_
      refine hR hgo hj takeD entD
    | false =>
      have u2 : e = 0 := by simpa using u1
      subst u2
      have hc : colR (pre ++ [(p, 0)]) = pre.map (·.1) ++ [p] := by unfold colR; rw [hes, if_neg (by simp), List.map_append]; rfl
      have hpm : ((pre.map (·.1)).map prV).length = pre.length := by simp
      have hpm2 : (List.map prV (List.map (fun x : Pr × Int => x.1) pre) ++ [prV p]).length = pre.length + 1 := by simp
      dsimp only [prV] at hpm2
      dsimp only at hN hE
      rw [hes, hc] at hN hE
      cases u3 : decide (((pre.length + 1 : Nat) : Int) = most) with
      | true =>
        have hgo : goR most (pre ++ [(p, 0)]) = false := by unfold goR; rw [List.length_append, List.length_singleton, u3]; simp
        have hj : jpR (pre ++ [(p, 0)]) = .exit 1 := by unfold jpR; rw [hes, if_neg (by simp)]
        have u4 : decide (((List.map prV (List.map (fun x : Pr × Int => x.1) pre) ++ [[Value.string p.k, Value.string p.v, Value.bool p.g]]).length : Int) = most) = true := by rw [hpm2]; exact u3
        repeat' (first | (refine go_Z ?_; intros) | (refine gs_Z ?_ ?_ <;> (intro hgd; try (simp only [Bool.not_true, Bool.not_false] at hgd))) | (refine gc_Z ?_ ?_ <;> intro _) | fail)
        (refine hB takeD ?_)
        (refine ok_ex selD ?_)
        rintro ⟨v1, hv1⟩
        dsimp only
        dsimp only [prV]
        repeat' (first | (refine go_Z ?_; intros) | (refine gs_Z ?_ ?_ <;> (intro hgd; try (simp only [Bool.not_true, Bool.not_false] at hgd))) | (refine gc_Z ?_ ?_ <;> intro _) | fail)
        rename_i v2 hv2 v3 hv3
        refine cont_map (fun _ h => prS_in (xs := pre.map (·.1) ++ [p]) (v := v3) (b := b8) hv3 (by rw [List.map_append]; exact Take.out2 takeD h)) ?_
        refine hE hgo hj takeD entD
      | false =>
        have hgo : goR most (pre ++ [(p, 0)]) = true := by unfold goR; rw [hes, List.length_append, List.length_singleton, u3]; rfl
        have u4 : decide (((List.map prV (List.map (fun x : Pr × Int => x.1) pre) ++ [[Value.string p.k, Value.string p.v, Value.bool p.g]]).length : Int) = most) = false := by rw [hpm2]; exact u3
        repeat' (first | (refine go_Z ?_; intros) | (refine gs_Z ?_ ?_ <;> (intro hgd; try (simp only [Bool.not_true, Bool.not_false] at hgd))) | (refine gc_Z ?_ ?_ <;> intro _) | fail)
        (refine hB takeD ?_)
        (refine ok_ex selD ?_)
        rintro ⟨v1, hv1⟩
        dsimp only
        dsimp only [prV]
        repeat' (first | (refine go_Z ?_; intros) | (refine gs_Z ?_ ?_ <;> (intro hgd; try (simp only [Bool.not_true, Bool.not_false] at hgd))) | (refine gc_Z ?_ ?_ <;> intro _) | fail)
        rename_i v2 hv2 v3 hv3
        refine cont_map (fun _ h => prS_in (xs := pre.map (·.1) ++ [p]) (v := v3) (b := b8) hv3 (by rw [List.map_append]; exact Take.out2 takeD h)) ?_
        refine hN hgo takeD entD
  · intro dk hb
    have hall := eat_goR ys [] hb (by simp)
    rw [List.nil_append] at hall
    have he0 := errR_ok hall
    have heq : (eat (goR most) [] ys).1 = ys := by rw [eat_true hb, List.nil_append]
    rw [heq, he0]
    (refine cont_ex selD ?_)
    rintro ⟨v1, hv1⟩
    dsimp only
    repeat' (first | (refine go_Z ?_; intros) | (refine gs_Z ?_ ?_ <;> (intro hgd; try (simp only [Bool.not_true, Bool.not_false] at hgd))) | (refine gc_Z ?_ ?_ <;> intro _) | fail)
    refine rtM_Z (y := ⟨v1, hv1⟩) (hrs := Try.results56) (hv := ?_) (hφ := ?_)
    · rfl
    · trivial
  · intro dk q hq
    rw [hq]
    dsimp only
    unfold jpR
    by_cases he : errR q ≠ 0
    · rw [if_pos he]
      (refine ok_ex selD ?_)
      rintro ⟨v1, hv1⟩
      dsimp only
      repeat' (first | (refine go_Z ?_; intros) | (refine gs_Z ?_ ?_ <;> (intro hgd; try (simp only [Bool.not_true, Bool.not_false] at hgd))) | (refine gc_Z ?_ ?_ <;> intro _) | fail)
      refine rtM_Z (y := ⟨v1, hv1⟩) (hrs := Try.results56) (hv := ?_) (hφ := ?_)
      · rfl
      · trivial
    · have he0 : errR q = 0 := by simpa using he
      rw [if_neg he, he0]
      (refine ok_ex selD ?_)
      rintro ⟨v1, hv1⟩
      dsimp only
      repeat' (first | (refine go_Z ?_; intros) | (refine gs_Z ?_ ?_ <;> (intro hgd; try (simp only [Bool.not_true, Bool.not_false] at hgd))) | (refine gc_Z ?_ ?_ <;> intro _) | fail)
      refine rtM_Z (y := ⟨v1, hv1⟩) (hrs := Try.results56) (hv := ?_) (hφ := ?_)
      · rfl
      · trivial
end Go.Proofs.Ytgmobpngcilgjaa
