import Derived.Test.YtadgdikijdmceaaGreatTqP
set_option linter.unusedSimpArgs false
set_option linter.unusedVariables false
namespace Go.Proofs.YtadgdikijdmceaaGreat
open Go Go.Fx Go.Pl

def TornB (t : BA) : Prop := t = ⟨#[]⟩ ∨ scanOf t = ([], 0, 70)
def tailS (x : Sg) : List Sg := match x.recs with | [] => [] | _ :: _ => [x]
structure Firm (d : Dk) (F : FS) : Prop where
  ok : d.Ok
  still : d.still = false
  loose : d.loose = []
  eq : FEq d.files F
theorem Firm.sure {d : Dk} {F : FS} (h : Firm d F) : d.sure = d.files := by
  have := h.ok.play
  rw [h.loose] at this
  exact this
theorem read_of {d : Dk} {k t : BA} (hd : d.Ok) (hs : d.still = false) (hm : mayN k = true) (hg : fget k d.files = some t) : d.read k 0 16777216 = (t, 0) := by
  have ht : ftext k d.files = t := by unfold ftext; rw [hg]; rfl
  have hz := ftext_le k d.files
  have hu := hd.used
  have hh : d.has k = true := by unfold Dk.has; rw [hg]; rfl
  rw [ht] at hz
  rw [read_eq d hm _ (by decide), hs, hh, ht, cut_all _ _ (by omega)]
  rfl
theorem scan_all (l : List BA) (h : allOk l = true) : scanOf (framesOf l) = (l, lenT l, 0) := by
  have := scanOf_frames ⟨#[]⟩ l h
  rw [ba_nil, scanOf_nil] at this
  simpa using this
theorem scan_torn (l : List BA) (h : allOk l = true) {t : BA} (ht : scanOf t = ([], 0, 70)) : scanOf (framesOf l ++ t) = (l, lenT l, 70) := by
  rw [scanOf_frames t l h, ht]
  simp
theorem lenT_pos {l : List BA} (h : l ≠ []) : 0 < lenT l := by
  have := len_lenT' l
  cases l with
  | nil => exact absurd rfl h
  | cons a l => rw [List.length_cons] at this; omega
theorem readT_full {d : Dk} {x : Sg} (last : Bool) (hd : d.Ok) (hs : d.still = false) (hm : mayN x.file = true) (hg : fget x.file d.files = some (framesOf x.recs)) (ha : allOk x.recs = true) (hr : x.recs ≠ []) : readT d ⟨x.file, x.first, []⟩ last = (x, false, 0) := by
  unfold readT
  dsimp only
  rw [read_of hd hs hm hg, scan_all _ ha]
  dsimp only
  have := lenT_pos hr
  rw [if_neg (fun h => h rfl), if_neg (fun h => by cases h.1), if_neg (fun h => h rfl), List.nil_append, decide_eq_false (by omega)]
theorem readT_last {d : Dk} {x : Sg} {t : BA} (hd : d.Ok) (hs : d.still = false) (hm : mayN x.file = true) (hg : fget x.file d.files = some (framesOf x.recs ++ t)) (ha : allOk x.recs = true) (ht : TornB t) : readT d ⟨x.file, x.first, []⟩ true = (x, true, 0) ∨ readT d ⟨x.file, x.first, []⟩ true = (x, false, 0) ∧ t = ⟨#[]⟩ ∧ x.recs ≠ [] := by
  rcases ht with rfl | ht
  · rw [ba_nil] at hg
    by_cases hr : x.recs = []
    · left
      unfold readT
      dsimp only
      rw [read_of hd hs hm hg, scan_all _ ha]
      dsimp only
      rw [if_neg (fun h => h rfl), if_neg (fun h => by cases h.1), if_neg (fun h => h rfl), List.nil_append, hr, decide_eq_true (by decide)]
      congr 1
      rw [← hr]
    · right
      exact ⟨readT_full true hd hs hm hg ha hr, rfl, hr⟩
  · left
    unfold readT
    dsimp only
    rw [read_of hd hs hm hg, scan_torn _ ha ht]
    dsimp only
    rw [if_neg (fun h => h rfl), if_pos ⟨rfl, rfl⟩, List.nil_append]

def cutC (x : Sg) : Cl := match x.recs with | [] => .rem x.file | _ :: _ => .trunc x.file (lenT x.recs : Int)
theorem cutT_eq {d : Dk} {x : Sg} {t : BA} (hs : d.still = false) (hm : mayN x.file = true) (hg : fget x.file d.files = some (framesOf x.recs ++ t)) : cutT d x = d.doC (cutC x) := by
  have hh : d.has x.file = true := by unfold Dk.has; rw [hg]; rfl
  have ht : ftext x.file d.files = framesOf x.recs ++ t := by unfold ftext; rw [hg]; rfl
  have hl : d.live [x.file] = 0 := by rw [live1 d hm, hs]; rfl
  unfold cutT cutC
  cases hr : x.recs with
  | nil =>
    dsimp only
    unfold Dk.remove
    rw [hl, if_neg (fun h => h rfl), hh]
    rfl
  | cons a l =>
    dsimp only
    unfold Dk.truncate
    rw [hl, if_neg (fun h => h rfl), if_neg (by omega), hh, ht, hr, ByteArray.size_append, framesOf_size]
    rw [if_neg (by decide), if_neg (by omega)]
theorem cut_run {name : BA} {seg f : Nat} {l0 : List Sg} {x : Sg} {F : FS} {t : BA} (h : Sq name seg f l0 x) (hs : 1 ≤ seg) (hF : FEq F (fsT l0 x t)) (hn : (F.map (·.1)).Nodup) : FEq ((cutC x).run F) (fsS (l0 ++ tailS x)) := by
  have hnin := h.notin hs
  rw [← fsS_keys] at hnin
  have hnd : ((fsT l0 x t).map (·.1)).Nodup := by rw [fsT_keys]; exact (h.nm hs).nodup
  unfold cutC tailS
  cases hr : x.recs with
  | nil =>
    dsimp only
    rw [List.append_nil]
    refine (hF.del x.file hn hnd).trans ?_
    unfold fsT
    rw [fdel_end hnin]
    exact .refl _
  | cons a l =>
    dsimp only
    have ht : ftext x.file F = framesOf x.recs ++ t := by rw [hF.text]; unfold ftext fsT; rw [fget_end hnin]; rfl
    show FEq (fput x.file ((ftext x.file F).extract 0 ((lenT (a :: l) : Int)).toNat) F) _
    rw [ht, hr, Int.toNat_natCast, ext_left _ _ (framesOf_size _).symm]
    refine (hF.put x.file _).trans ?_
    unfold fsT
    rw [fput_end hnin, fsS_app]
    show FEq _ (fsS l0 ++ [(x.file, framesOf x.recs)])
    rw [hr]
    exact .refl _
theorem cutC_ok {d : Dk} {x : Sg} {t : BA} (hd : d.Ok) (hs : d.still = false) (hm : mayN x.file = true) (hg : fget x.file d.files = some (framesOf x.recs ++ t)) : (d.doC (cutC x)).1.Ok := by
  rw [← cutT_eq hs hm hg]
  exact cutT_ok hd x
theorem doC_m1 {d : Dk} (c : Cl) (hf : d.fuse = -1) : d.doC c = ({ d with files := c.run d.files, loose := d.loose ++ [c] }, 0) := by
  unfold Dk.doC
  rw [if_neg (by omega), hf]
  rw [← hf]
  simp
  intro h
  omega
theorem sync_m1 {d : Dk} (hs : d.still = false) (hf : d.fuse = -1) : d.sync = ({ d with sure := d.files, loose := [] }, 0) := by
  unfold Dk.sync Dk.settle
  rw [live0, hs, if_neg (by decide), if_neg (by omega), hf]
  rw [← hf]
  simp
  intro h
  omega

theorem Fl.next {name : BA} {seg : Nat} {l : List Sg} {f : Nat} (h : Fl name seg f l) (hl : l ≠ []) : nextS l = f + seg * l.length := by
  rcases List.eq_nil_or_concat l with rfl | ⟨a, x, rfl⟩
  · exact absurd rfl hl
  · rw [List.concat_eq_append] at h ⊢
    obtain ⟨h1, h2, h3, h4, _⟩ := Fl.app.1 h
    unfold nextS
    rw [List.getLast?_concat]
    show x.first + x.recs.length = _
    rw [h3, h4, List.length_append, List.length_singleton, Nat.mul_add, Nat.mul_one]
    omega
theorem tmod_nat {a b : Nat} (h : a % b = 0) : (a : Int).tmod (b : Int) = 0 := by
  rw [← Int.ofNat_tmod, h]; rfl
def zS (x : Sg) : Sg := ⟨x.file, x.first, []⟩
theorem loadL_nil (seg n k : Nat) (acc : List Sg) (d : Dk) : loadL seg n [] k acc d = (d, 0, acc) := rfl
theorem loadL_full {name : BA} {seg f n : Nat} {d : Dk} {x : Sg} (hs : 1 ≤ seg) (hf : f % seg = 0) (hd : d.Ok) (hst : d.still = false) : ∀ (b a : List Sg), Fl name seg f (a ++ b) → n = (a ++ b).length + 1 →
    (∀ y ∈ b, mayN y.file = true ∧ fget y.file d.files = some (framesOf y.recs) ∧ allOk y.recs = true) →
    loadL seg n ((b ++ [x]).map zS) a.length a d = loadL seg n [zS x] (a ++ b).length (a ++ b) d
  | [], a, _, _, _ => by rw [List.append_nil]; rfl
  | y :: b, a, hl, hn, hy => by
    obtain ⟨h1, h2, h3⟩ := hy y (List.mem_cons_self ..)
    obtain ⟨hla, hlf, hlr, hll, _⟩ := Fl.app.1 hl
    have hne : y.recs ≠ [] := fun e => by rw [e, List.length_nil] at hll; omega
    have hlen : (a ++ y :: b).length = a.length + b.length + 1 := by rw [List.length_append, List.length_cons]; omega
    have hlast : decide ((a.length : Int) = (n : Int) - 1) = false := decide_eq_false (by omega)
    have hrd : readT d (zS y) (decide ((a.length : Int) = (n : Int) - 1)) = (y, false, 0) := by rw [hlast]; exact readT_full false hd hst h1 h2 h3 hne
    have e1 : bad1 seg y = false := by
      unfold bad1
      rw [decide_eq_true (tmod_nat (by rw [hlr, Nat.add_mul_mod_self_left, hf])), decide_eq_false (by omega)]
      rfl
    have e2 : bad2 a.length a y = false := by
      unfold bad2
      by_cases h0 : a = []
      · rw [h0]; rfl
      · rw [hla.next h0, hlr]; simp
    have e3 : bad3 seg n a.length y = false := by
      unfold bad3
      rw [decide_eq_true (show (y.recs.length : Int) = (seg : Int) by omega)]
      simp
    rw [List.cons_append, List.map_cons, loadL_cons _ _ _ _ _ _ _ _ hrd]
    dsimp only
    rw [if_neg (fun h => h rfl), e1, e2, e3, if_neg (by decide), if_neg (by decide), if_neg (by decide), if_neg (by decide)]
    have e4 : addL a y = a ++ [y] := by unfold addL; rw [if_pos (by omega)]
    rw [e4]
    have := loadL_full (n := n) (d := d) (x := x) hs hf hd hst b (a ++ [y]) (by rw [List.append_assoc]; exact hl) (by rw [List.append_assoc]; exact hn) (fun z hz => hy z (List.mem_cons_of_mem _ hz))
    rw [List.append_assoc, List.length_append, List.length_singleton] at this
    exact this
theorem load_sq {name : BA} {seg f : Nat} {d : Dk} {l0 : List Sg} {x : Sg} {t : BA} (hm : mayN name = true) (hz : name.size ≤ 32) (hs : 1 ≤ seg) (hf : f % seg = 0) (h : Sq name seg f l0 x) (hd : Firm d (fsT l0 x t)) (hfu : d.fuse = -1) (ht : TornB t)
    (ha : ∀ y ∈ l0 ++ [x], allOk y.recs = true) :
    ∃ d', loadT d name seg = (d', 0, l0 ++ tailS x) ∧ Firm d' (fsS (l0 ++ tailS x)) ∧ d'.fuse = -1 ∧ d'.room = d.room := by
  have hnm := h.nm hs
  have hnd : ((fsT l0 x t).map (·.1)).Nodup := by rw [fsT_keys]; exact hnm.nodup
  have hnin := h.notin hs
  have hnin' := hnin
  rw [← fsS_keys] at hnin'
  have hkeys : sortN (d.files.map (·.1)) = (l0 ++ [x]).map (·.file) := sortN_rise (by have := hd.eq.perm hd.ok.nd hnd; rw [fsT_keys] at this; exact this) hnm.keys
  have hmay : ∀ y ∈ l0 ++ [x], mayN y.file = true := fun y hy => by rw [hnm.file y hy]; exact mayN_fileT name _ hm hz
  have hgx : fget x.file d.files = some (framesOf x.recs ++ t) := by rw [hd.eq]; exact fget_end hnin'
  have hgy : ∀ y ∈ l0, fget y.file d.files = some (framesOf y.recs) := fun y hy => by
    rw [hd.eq]
    unfold fsT
    have hk := hnm.nodup
    rw [List.map_append, List.nodup_append] at hk
    rw [fget_app, fget_fsS hk.1 hy]; rfl
  unfold loadT
  rw [hkeys, hnm.files]
  show ∃ d', loadE (loadL seg ((l0 ++ [x]).map zS).length ((l0 ++ [x]).map zS) 0 [] d) = _ ∧ _
  have hlen : ((l0 ++ [x]).map zS).length = l0.length + 1 := by simp
  have hfull := loadL_full (n := l0.length + 1) (d := d) (x := x) hs hf hd.ok hd.still l0 [] h.fl rfl (fun y hy => ⟨hmay y (List.mem_append_left _ hy), hgy y hy, ha y (List.mem_append_left _ hy)⟩)
  rw [List.nil_append] at hfull
  rw [hlen, show loadL seg (l0.length + 1) ((l0 ++ [x]).map zS) 0 [] d = loadL seg (l0.length + 1) ((l0 ++ [x]).map zS) ([] : List Sg).length [] d from rfl, hfull]
  have hxm : x ∈ l0 ++ [x] := by simp
  have hlast : decide (((l0.length : Nat) : Int) = ((l0.length + 1 : Nat) : Int) - 1) = true := decide_eq_true (by omega)
  have hl := h.le
  have hfi := h.first
  have e1 : bad1 seg x = false := by
    unfold bad1
    rw [decide_eq_true (tmod_nat (by rw [hfi, Nat.add_mul_mod_self_left, hf])), decide_eq_false (by omega)]
    rfl
  have e2 : bad2 l0.length l0 x = false := by
    unfold bad2
    by_cases h0 : l0 = []
    · rw [h0]; rfl
    · rw [h.fl.next h0, hfi]; simp
  have e3 : bad3 seg (l0.length + 1) l0.length x = false := by
    unfold bad3
    rw [decide_eq_false (by omega)]
    rfl
  have eA : addL l0 x = l0 ++ tailS x := by
    unfold addL tailS
    cases hr : x.recs with
    | nil => rw [if_neg (by simp), List.append_nil]
    | cons a l => rw [if_pos (by simp)]
  rcases readT_last hd.ok hd.still (hmay x hxm) hgx (ha x hxm) ht with hr | ⟨hr, rfl, hne⟩
  · have hr' : readT d (zS x) (decide (((l0.length : Nat) : Int) = ((l0.length + 1 : Nat) : Int) - 1)) = (x, true, 0) := by rw [hlast]; exact hr
    rw [loadL_cons _ _ _ _ _ _ _ _ hr']
    dsimp only
    rw [if_neg (fun h => h rfl), e1, e2, e3, if_neg (by decide), if_neg (by decide), if_neg (by decide), if_pos rfl, eA]
    have hce := cutT_eq hd.still (hmay x hxm) hgx
    have hco := cutC_ok hd.ok hd.still (hmay x hxm) hgx
    have hcr := cut_run h hs hd.eq hd.ok.nd
    rw [doC_m1 _ hfu] at hce hco
    rw [hce]
    dsimp only
    rw [if_neg (fun h => h rfl)]
    rw [loadL_nil]
    unfold loadE
    dsimp only
    rw [if_neg (fun h => h rfl), if_pos (by simp)]
    have hsy := sync_m1 (d := { d with files := (cutC x).run d.files, loose := d.loose ++ [cutC x] }) hd.still hfu
    have hso := hco.sync
    rw [hsy] at hso
    refine ⟨_, by rw [hsy], ⟨hso, hd.still, rfl, hcr⟩, hfu, rfl⟩
  · have hr' : readT d (zS x) (decide (((l0.length : Nat) : Int) = ((l0.length + 1 : Nat) : Int) - 1)) = (x, false, 0) := by rw [hlast]; exact hr
    rw [loadL_cons _ _ _ _ _ _ _ _ hr']
    dsimp only
    rw [if_neg (fun h => h rfl), e1, e2, e3, if_neg (by decide), if_neg (by decide), if_neg (by decide), if_neg (by decide), eA]
    rw [loadL_nil]
    unfold loadE
    dsimp only
    rw [if_neg (fun h => h rfl), hd.loose, if_neg (by simp)]
    have hts : tailS x = [x] := by
      unfold tailS
      cases hrr : x.recs with
      | nil => exact absurd hrr hne
      | cons a l => rfl
    have hq := hd.eq
    unfold fsT at hq
    rw [ba_nil] at hq
    exact ⟨d, rfl, ⟨hd.ok, hd.still, hd.loose, by rw [hts, fsS_app]; exact hq⟩, hfu, rfl⟩
theorem load_nil {name : BA} {seg : Nat} {d : Dk} (hd : Firm d []) : loadT d name seg = (d, 0, []) := by
  have hk : d.files.map (·.1) = [] := by
    have := hd.eq.perm hd.ok.nd (by simp)
    exact List.Perm.eq_nil this
  unfold loadT
  have hs0 : sortN [] = [] := by unfold sortN; simp
  rw [hk, hs0]
  show loadE (d, 0, []) = _
  unfold loadE
  dsimp only
  rw [if_neg (fun h => h rfl), hd.loose, if_neg (by simp)]
end Go.Proofs.YtadgdikijdmceaaGreat
