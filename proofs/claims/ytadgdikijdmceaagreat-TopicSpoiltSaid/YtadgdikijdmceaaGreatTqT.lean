import Derived.Test.YtadgdikijdmceaaGreatTqS
set_option linter.unusedSimpArgs false
set_option linter.unusedVariables false
namespace Go.Proofs.YtadgdikijdmceaaGreat
open Go Go.Fx Go.Pl

def Sqm (name : BA) (seg f : Nat) (l : List Sg) : Prop := (l = [] ∧ f = 0) ∨ ∃ l0 x, l = l0 ++ [x] ∧ Sq name seg f l0 x
def nrm (l : List Sg) : List Sg := l.filter fun x => !x.recs.isEmpty
theorem Fl.nrm {name : BA} {seg : Nat} (hs : 1 ≤ seg) {l : List Sg} {f : Nat} (h : Fl name seg f l) : nrm l = l := by
  unfold Go.Proofs.YtadgdikijdmceaaGreat.nrm
  rw [List.filter_eq_self]
  intro x hx
  have := (h.mem x hx).2.2.2
  cases hr : x.recs with
  | nil => rw [hr, List.length_nil] at this; omega
  | cons a l => rfl
theorem nrm_app (a b : List Sg) : nrm (a ++ b) = nrm a ++ nrm b := by unfold nrm; rw [List.filter_append]
theorem nrm_one (x : Sg) : nrm [x] = tailS x := by
  unfold nrm tailS
  cases hr : x.recs with
  | nil => simp [hr]
  | cons a l => simp [hr]
theorem Sq.nrm {name : BA} {seg f : Nat} {l0 : List Sg} {x : Sg} (h : Sq name seg f l0 x) (hs : 1 ≤ seg) : nrm (l0 ++ [x]) = l0 ++ tailS x := by rw [nrm_app, h.fl.nrm hs, nrm_one]
theorem Tw.sqm {name : BA} {seg f : Nat} {l : List Sg} (h : Tw name seg f l) : Sqm name seg f l := by
  rcases h.sq with h | ⟨l0, x, rfl, hq, _⟩
  · exact .inl h
  · exact .inr ⟨l0, x, rfl, hq⟩
theorem Tw.nrm {name : BA} {seg f : Nat} {l : List Sg} (h : Tw name seg f l) (hs : 1 ≤ seg) : nrm l = l := by
  rcases h.sq with ⟨rfl, _⟩ | ⟨l0, x, rfl, hq, hx⟩
  · rfl
  · rw [hq.nrm hs]
    unfold tailS
    cases hr : x.recs with
    | nil => exact absurd hr hx
    | cons a l => rfl
def TornSt (name : BA) (seg f : Nat) (R : List BA) (F : FS) : Prop := (R = [] ∧ f = 0 ∧ FEq F []) ∨ ∃ l0 x t, Sq name seg f l0 x ∧ TornB t ∧ FEq F (fsT l0 x t) ∧ allR (l0 ++ [x]) = R
theorem allR_one (x : Sg) : allR [x] = x.recs := by simp [allR]
theorem Fl.sq {name : BA} {seg f : Nat} (hs : 1 ≤ seg) {l : List Sg} (h : Fl name seg f l) (hl : l ≠ []) (hb : f + seg * l.length < 281474976710656 + seg) : ∃ l0 x, l = l0 ++ [x] ∧ Sq name seg f l0 x ∧ x.recs ≠ [] := by
  rcases List.eq_nil_or_concat l with rfl | ⟨a, x, rfl⟩
  · exact absurd rfl hl
  · rw [List.concat_eq_append] at h hb ⊢
    obtain ⟨h1, h2, h3, h4, _⟩ := Fl.app.1 h
    rw [List.length_append, List.length_singleton, Nat.mul_add, Nat.mul_one] at hb
    exact ⟨a, x, rfl, ⟨h1, h3, by rw [h3]; exact h2, by omega, by omega⟩, fun e => by rw [e, List.length_nil] at h4; omega⟩
theorem torn_nrm {name : BA} {seg f : Nat} {l : List Sg} {F : FS} (hs : 1 ≤ seg) (h : Sqm name seg f l) (hR : allR l = [] → f = 0) (hF : FEq F (fsS (nrm l))) : TornSt name seg f (allR l) F := by
  rcases h with ⟨rfl, rfl⟩ | ⟨l0, x, rfl, hq⟩
  · exact .inl ⟨rfl, rfl, hF⟩
  · rw [hq.nrm hs] at hF
    cases hr : x.recs with
    | nil =>
      have e : tailS x = [] := by unfold tailS; rw [hr]
      rw [e, List.append_nil] at hF
      have eR : allR (l0 ++ [x]) = allR l0 := by rw [allR_app, allR_one, hr, List.append_nil]
      rw [eR]
      by_cases h0 : l0 = []
      · subst h0
        exact .inl ⟨rfl, hR eR, hF⟩
      · have h1 := hq.first
        have h2 := hq.lt
        obtain ⟨l1, y, rfl, hq1, _⟩ := hq.fl.sq hs h0 (by omega)
        refine .inr ⟨l1, y, ⟨#[]⟩, hq1, .inl rfl, ?_, rfl⟩
        unfold fsT
        rw [ba_nil]
        rw [fsS_app] at hF
        exact hF
    | cons a l =>
      have e : tailS x = [x] := by unfold tailS; rw [hr]
      rw [e] at hF
      refine .inr ⟨l0, x, ⟨#[]⟩, hq, .inl rfl, ?_, rfl⟩
      unfold fsT
      rw [ba_nil]
      rw [fsS_app] at hF
      exact hF
theorem text_tail {name : BA} {seg f : Nat} {l0 : List Sg} {x : Sg} {F : FS} (h : Sq name seg f l0 x) (hs : 1 ≤ seg) (hF : FEq F (fsS (l0 ++ tailS x))) : ftext x.file F = framesOf x.recs := by
  have hnin := h.notin hs
  rw [← fsS_keys] at hnin
  rw [hF.text]
  unfold ftext tailS
  cases hr : x.recs with
  | nil => dsimp only; rw [List.append_nil, fget_notin hnin]; rfl
  | cons a l =>
    dsimp only
    rw [fsS_app]
    show (fget x.file (fsS l0 ++ [(x.file, framesOf x.recs)])).getD _ = _
    rw [fget_end hnin, hr]; rfl
theorem put_tail {name : BA} {seg f : Nat} {l0 : List Sg} {x : Sg} {F : FS} (h : Sq name seg f l0 x) (hs : 1 ≤ seg) (hF : FEq F (fsS (l0 ++ tailS x))) (b : BA) : FEq ((Cl.app x.file b).run F) (fsT l0 x b) := by
  have hnin := h.notin hs
  rw [← fsS_keys] at hnin
  show FEq (fput x.file (ftext x.file F ++ b) F) _
  rw [text_tail h hs hF]
  refine (hF.put _ _).trans ?_
  unfold fsT tailS
  cases hr : x.recs with
  | nil => dsimp only; rw [List.append_nil, fput_new hnin]; exact .refl _
  | cons a l =>
    dsimp only
    rw [fsS_app]
    show FEq (fput x.file _ (fsS l0 ++ [(x.file, framesOf x.recs)])) _
    rw [fput_end hnin]
    exact .refl _
def more (x : Sg) (l : List BA) : Sg := ⟨x.file, x.first, x.recs ++ l⟩
theorem fsT_more (l0 : List Sg) (x : Sg) (l : List BA) (t : BA) : fsT l0 x (framesOf l ++ t) = fsT l0 (more x l) t := by
  unfold fsT more
  dsimp only
  rw [framesOf_append, ByteArray.append_assoc]
theorem fsT_none (l0 : List Sg) (x : Sg) : fsT l0 x ⟨#[]⟩ = fsS (l0 ++ [x]) := by unfold fsT; rw [ba_nil, fsS_app]; rfl
theorem Sq.more {name : BA} {seg f : Nat} {l0 : List Sg} {x : Sg} (h : Sq name seg f l0 x) {l : List BA} (hl : x.recs.length + l.length ≤ seg) : Sq name seg f l0 (more x l) := ⟨h.fl, h.first, h.file, by show (x.recs ++ l).length ≤ seg; rw [List.length_append]; exact hl, h.lt⟩
theorem cut_frames (l : List BA) (h : allOk l = true) (k : Nat) : ∃ j t, (framesOf l).extract 0 k = framesOf (l.take j) ++ t ∧ TornB t := by
  obtain ⟨j, h1, h2, h3, h4⟩ := scan_cut l h k
  rcases h3 with ⟨_, h3⟩ | h3
  · exact ⟨j, ⟨#[]⟩, by rw [ba_nil]; exact h3, .inl rfl⟩
  · have hle := (scanF_len ((framesOf l).extract 0 k).size ((framesOf l).extract 0 k)).2
    rw [show scanF ((framesOf l).extract 0 k).size ((framesOf l).extract 0 k) = scanOf ((framesOf l).extract 0 k) from rfl, h2] at hle
    have hs := ext_split _ _ hle
    rw [h4] at hs
    refine ⟨j, _, hs, .inr ?_⟩
    generalize ((framesOf l).extract 0 k).extract (lenT (l.take j)) ((framesOf l).extract 0 k).size = t at hs
    rw [hs, scanOf_frames t _ (allOk_take h j)] at h1 h2 h3
    dsimp only at h1 h2 h3
    generalize scanOf t = st at h1 h2 h3
    obtain ⟨a, b, c⟩ := st
    dsimp only at h1 h2 h3
    have ha : a = [] := by
      have := congrArg List.length h1
      rw [List.length_append] at this
      exact List.eq_nil_of_length_eq_zero (by omega)
    rw [ha, h3, show b = 0 by omega]
def UndoOk (u : List Sg) (F0 F : FS) : Prop := ∀ d : Dk, FEq d.files F → d.Ok → d.still = false → d.fuse = -1 → ∃ d', backL u.reverse 0 d = (d', 0, 0) ∧ FEq d'.files F0 ∧ d'.Ok ∧ d'.still = false ∧ d'.fuse = -1 ∧ d'.room = d.room
theorem UndoOk.nil (F : FS) : UndoOk [] F F := fun d h1 h2 h3 h4 => ⟨d, rfl, h1, h2, h3, h4, rfl⟩
theorem UndoOk.snoc {name : BA} {seg f : Nat} {u : List Sg} {F0 : FS} {l0 : List Sg} {x : Sg} (hm : mayN name = true) (hz : name.size ≤ 32) (h : Sq name seg f l0 x) (hs : 1 ≤ seg) (hu : UndoOk u F0 (fsS (l0 ++ tailS x))) (b : BA) : UndoOk (u ++ [x]) F0 (fsT l0 x b) := by
  intro d h1 h2 h3 h4
  have hnin := h.notin hs
  rw [← fsS_keys] at hnin
  have hmx : mayN x.file = true := by rw [h.file]; exact mayN_fileT name _ hm hz
  have hg : fget x.file d.files = some (framesOf x.recs ++ b) := by rw [h1]; exact fget_end hnin
  have hce := cutT_eq h3 hmx hg
  have hco := cutC_ok h2 h3 hmx hg
  have hcr := cut_run h hs h1 h2.nd
  rw [doC_m1 _ h4] at hce hco
  obtain ⟨d', g1, g2, g3, g4, g5, g6⟩ := hu { d with files := (cutC x).run d.files, loose := d.loose ++ [cutC x] } hcr hco h3 h4
  refine ⟨d', ?_, g2, g3, g4, g5, g6⟩
  rw [List.reverse_append, List.reverse_singleton, List.singleton_append, backL, hce]
  dsimp only
  rw [if_neg (fun h => h rfl)]
  exact g1
def AppC (name : BA) (seg f : Nat) (A B : List BA) (F : FS) : Prop := ∃ j, TornSt name seg f (A ++ B.take j) F
end Go.Proofs.YtadgdikijdmceaaGreat
