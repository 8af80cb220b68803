import Derived.Test.YtadgdikijdmceaaGreatTqP
set_option linter.unusedSimpArgs false
set_option linter.unusedVariables false
namespace Go.Proofs.YtadgdikijdmceaaGreat
open Go Go.Fx Go.Pl

def TornB (t : BA) : Prop := t = ⟨#[]⟩ ∨ scanOf t = ([], 0, 70)
def tailS (x : Sg) : List Sg := match x.recs with | [] => [] | _ :: _ => [x]
structure Firm (d : Dk) (F : FS) : Prop where
  ok : d.Ok
  still : d.still = false
  loose : d.loose = []
  eq : FEq d.files F
theorem Firm.sure {d : Dk} {F : FS} (h : Firm d F) : d.sure = d.files := by
  have := h.ok.play
  rw [h.loose] at this
  exact this
def cutC (x : Sg) : Cl := match x.recs with | [] => .rem x.file | _ :: _ => .trunc x.file (lenT x.recs : Int)
theorem cutT_eq {d : Dk} {x : Sg} {t : BA} (hs : d.still = false) (hm : mayN x.file = true) (hg : fget x.file d.files = some (framesOf x.recs ++ t)) : cutT d x = d.doC (cutC x) := by
  have hh : d.has x.file = true := by unfold Dk.has; rw [hg]; rfl
  have ht : ftext x.file d.files = framesOf x.recs ++ t := by unfold ftext; rw [hg]; rfl
  have hl : d.live [x.file] = 0 := by rw [live1 d hm, hs]; rfl
  unfold cutT cutC
  cases hr : x.recs with
  | nil =>
    dsimp only
    unfold Dk.remove
    rw [hl, if_neg (fun h => h rfl), hh]
    rfl
  | cons a l =>
    dsimp only
    unfold Dk.truncate
    rw [hl, if_neg (fun h => h rfl), if_neg (by omega), hh, ht, hr, ByteArray.size_append, framesOf_size]
    rw [if_neg (by decide), if_neg (by omega)]
theorem cut_run {name : BA} {seg f : Nat} {l0 : List Sg} {x : Sg} {F : FS} {t : BA} (h : Sq name seg f l0 x) (hs : 1 ≤ seg) (hF : FEq F (fsT l0 x t)) (hn : (F.map (·.1)).Nodup) : FEq ((cutC x).run F) (fsS (l0 ++ tailS x)) := by
  have hnin := h.notin hs
  rw [← fsS_keys] at hnin
  have hnd : ((fsT l0 x t).map (·.1)).Nodup := by rw [fsT_keys]; exact (h.nm hs).nodup
  unfold cutC tailS
  cases hr : x.recs with
  | nil =>
    dsimp only
    rw [List.append_nil]
    refine (hF.del x.file hn hnd).trans ?_
    unfold fsT
    rw [fdel_end hnin]
    exact .refl _
  | cons a l =>
    dsimp only
    have ht : ftext x.file F = framesOf x.recs ++ t := by rw [hF.text]; unfold ftext fsT; rw [fget_end hnin]; rfl
    show FEq (fput x.file ((ftext x.file F).extract 0 ((lenT (a :: l) : Int)).toNat) F) _
    rw [ht, hr, Int.toNat_natCast, ext_left _ _ (framesOf_size _).symm]
    refine (hF.put x.file _).trans ?_
    unfold fsT
    rw [fput_end hnin, fsS_app]
    show FEq _ (fsS l0 ++ [(x.file, framesOf x.recs)])
    rw [hr]
    exact .refl _
theorem cutC_ok {d : Dk} {x : Sg} {t : BA} (hd : d.Ok) (hs : d.still = false) (hm : mayN x.file = true) (hg : fget x.file d.files = some (framesOf x.recs ++ t)) : (d.doC (cutC x)).1.Ok := by
  rw [← cutT_eq hs hm hg]
  exact cutT_ok hd x
theorem doC_m1 {d : Dk} (c : Cl) (hf : d.fuse = -1) : d.doC c = ({ d with files := c.run d.files, loose := d.loose ++ [c] }, 0) := by
  unfold Dk.doC
  rw [if_neg (by omega), hf]
  rw [← hf]
  simp
  intro h
  omega
theorem sync_m1 {d : Dk} (hs : d.still = false) (hf : d.fuse = -1) : d.sync = ({ d with sure := d.files, loose := [] }, 0) := by
  unfold Dk.sync Dk.settle
  rw [live0, hs, if_neg (by decide), if_neg (by omega), hf]
  rw [← hf]
  simp
  intro h
  omega

theorem Fl.next {name : BA} {seg : Nat} {l : List Sg} {f : Nat} (h : Fl name seg f l) (hl : l ≠ []) : nextS l = f + seg * l.length := by
  rcases List.eq_nil_or_concat l with rfl | ⟨a, x, rfl⟩
  · exact absurd rfl hl
  · rw [List.concat_eq_append] at h ⊢
    obtain ⟨h1, h2, h3, h4, _⟩ := Fl.app.1 h
    unfold nextS
    rw [List.getLast?_concat]
    show x.first + x.recs.length = _
    rw [h3, h4, List.length_append, List.length_singleton, Nat.mul_add, Nat.mul_one]
    omega
def zS (x : Sg) : Sg := ⟨x.file, x.first, []⟩
theorem load_nil {name : BA} {seg : Nat} {d : Dk} (hd : Firm d []) : loadT d name seg = (d, 0, []) := by
  have hk : d.files.map (·.1) = [] := by
    have := hd.eq.perm hd.ok.nd (by simp)
    exact List.Perm.eq_nil this
  unfold loadT
  have hs0 : sortN [] = [] := by unfold sortN; simp
  rw [hk, hs0]
  show loadE (d, 0, []) = _
  unfold loadE
  dsimp only
  rw [if_neg (fun h => h rfl), hd.loose, if_neg (by simp)]
end Go.Proofs.YtadgdikijdmceaaGreat
