import Derived.Test.YtadgdikijdmceaaGreatTrE
import Derived.Test.YtadgdikijdmceaaGreatTqX
import Derived.Test.YtadgdikijdmceaaGreatG8
import Derived.Test.YtadgdikijdmceaaGreatFlT
set_option linter.unusedSimpArgs false
set_option linter.unusedVariables false
namespace Go.Proofs.YtadgdikijdmceaaGreat
open Go Go.Fx Go.Pl

theorem readX_full {d : Dk} {off : Nat} {most : Int} {file : BA} {first : Nat} : ∀ (b : List BA) (k a : Nat) (acc : List BA), most ≤ (acc.length : Int) → off ≤ first + k → (readX d off most file first b k a acc).1 = acc ∧ (readX d off most file first b k a acc).2.1 = 0
  | [], k, a, acc, _, _ => by simp [readX]
  | r :: b, k, a, acc, h, ho => by
    rw [readX, if_neg (by omega), if_pos h]; exact ⟨rfl, rfl⟩
theorem readX_skip {d : Dk} {off : Nat} {most : Int} {file : BA} {first : Nat} : ∀ (b : List BA) (k a : Nat) (acc : List BA), first + k + b.length ≤ off → readX d off most file first b k a acc = (acc, 0, false)
  | [], k, a, acc, _ => by simp [readX]
  | r :: b, k, a, acc, h => by
    rw [List.length_cons] at h
    rw [readX, if_pos (by omega)]
    exact readX_skip b (k + 1) _ acc (by omega)
theorem readX_at {d : Dk} {off : Nat} {file : BA} {first : Nat} : ∀ (b : List BA) (k a j : Nat) (r : BA), off = first + k + j → b[j]? = some r →
    (readX d off 1 file first b k a []).1 = (if (getT d file (a + lenT (b.take j)) r).2 ≠ 0 then [] else [(getT d file (a + lenT (b.take j)) r).1]) ∧ (readX d off 1 file first b k a []).2.1 = (getT d file (a + lenT (b.take j)) r).2 ∧ ((getT d file (a + lenT (b.take j)) r).2 ≠ 0 → (readX d off 1 file first b k a []).2.2 = true)
  | [], k, a, j, r, _, h => by simp at h
  | s :: b, k, a, 0, r, ho, h => by
    obtain rfl : s = r := by simpa using h
    have e0 : a + lenT ((s :: b).take 0) = a := by simp [lenT]
    rw [e0, readX, if_neg (by omega), if_neg (by simp)]
    by_cases he : (getT d file a s).2 ≠ 0
    · rw [if_pos he, if_pos he]; exact ⟨rfl, rfl, fun _ => rfl⟩
    · rw [if_neg he, if_neg he, List.nil_append]
      obtain ⟨q1, q2⟩ := readX_full (d := d) (off := off) (most := 1) (file := file) (first := first) b (k + 1) (a + (12 + s.size)) [(getT d file a s).1] (by simp) (by omega)
      refine ⟨q1, ?_, fun h => absurd h he⟩
      rw [q2]
      exact (Decidable.not_not.1 he).symm
  | s :: b, k, a, j + 1, r, ho, h => by
    have e0 : a + lenT ((s :: b).take (j + 1)) = (a + (12 + s.size)) + lenT (b.take j) := by simp [lenT]; omega
    rw [e0, readX, if_pos (by omega)]
    exact readX_at b (k + 1) (a + (12 + s.size)) j r (by omega) (by simpa using h)
theorem readL_full {d : Dk} {off : Nat} {most : Int} : ∀ (l : List Sg) (acc : List BA), most ≤ (acc.length : Int) → (∀ x ∈ l, off ≤ x.first) → readL d off most l acc = (acc, 0)
  | [], acc, _, _ => rfl
  | x :: l, acc, h, hx => by
    obtain ⟨q1, q2⟩ := readX_full (d := d) (off := off) (most := most) (file := x.file) (first := x.first) x.recs 0 0 acc h (by have := hx x (List.mem_cons_self ..); omega)
    rw [readL, q1, q2]
    split
    · rfl
    · exact readL_full l acc h (fun y hy => hx y (List.mem_cons_of_mem _ hy))
theorem Cn.lo {name : BA} : ∀ {l : List Sg} {f : Nat}, Cn name f l → ∀ x ∈ l, f ≤ x.first ∧ x.first + x.recs.length ≤ f + (allR l).length
  | [], f, _, x, hx => by simp at hx
  | y :: l, f, ⟨h1, h2, h3⟩, x, hx => by
    rw [allR_cons, List.length_append]
    rcases List.mem_cons.1 hx with rfl | hx
    · omega
    · have := Cn.lo h3 x hx; omega
theorem Cn.uniq {name : BA} : ∀ {l : List Sg} {f : Nat}, Cn name f l → ∀ x ∈ l, ∀ y ∈ l, ∀ j m : Nat, x.first + j = y.first + m → j < x.recs.length → m < y.recs.length → x = y ∧ j = m
  | [], f, _, x, hx, _, _, _, _, _, _, _ => by simp at hx
  | z :: l, f, ⟨h1, h2, h3⟩, x, hx, y, hy, j, m, he, hj, hm => by
    rcases List.mem_cons.1 hx with rfl | hx'
    · rcases List.mem_cons.1 hy with rfl | hy'
      · exact ⟨rfl, by omega⟩
      · have := Cn.lo h3 y hy'; omega
    · rcases List.mem_cons.1 hy with rfl | hy'
      · have := Cn.lo h3 x hx'; omega
      · exact Cn.uniq h3 x hx' y hy' j m he hj hm
theorem readL_at {d : Dk} {name : BA} {off : Nat} : ∀ (l : List Sg) (f : Nat), Cn name f l → f ≤ off → off < f + (allR l).length →
    ∃ x ∈ l, ∃ j r, x.first + j = off ∧ x.recs[j]? = some r ∧ (allR l)[off - f]? = some r ∧ readL d off 1 l [] = ((if (getT d x.file (lenT (x.recs.take j)) r).2 ≠ 0 then [] else [(getT d x.file (lenT (x.recs.take j)) r).1]), (getT d x.file (lenT (x.recs.take j)) r).2)
  | [], f, _, _, h => by simp [allR] at h; omega
  | x :: l, f, ⟨h1, h2, h3⟩, hlo, hhi => by
    rw [allR_cons, List.length_append] at hhi
    by_cases hin : off < f + x.recs.length
    · have hj : off - f < x.recs.length := by omega
      refine ⟨x, List.mem_cons_self .., off - f, x.recs[off - f], by omega, List.getElem?_eq_getElem hj, ?_, ?_⟩
      · rw [allR_cons, List.getElem?_append_left hj, List.getElem?_eq_getElem hj]
      · obtain ⟨q1, q2, q3⟩ := readX_at (d := d) (off := off) (file := x.file) (first := x.first) x.recs 0 0 (off - f) x.recs[off - f] (by omega) (List.getElem?_eq_getElem hj)
        rw [Nat.zero_add] at q1 q2 q3
        generalize getT d x.file (lenT (x.recs.take (off - f))) x.recs[off - f] = g at q1 q2 q3 ⊢
        rw [readL]
        by_cases he : g.2 ≠ 0
        · rw [if_pos (q3 he), q1, q2]
        · rw [q1, q2]
          split
          · rfl
          · have := readL_full (d := d) (off := off) (most := 1) l [g.1] (by simp) (fun y hy => by have := Cn.lo h3 y hy; omega)
            rw [this]
            congr 1
            exact (Decidable.not_not.1 he).symm
    · obtain ⟨y, hy, j, r, k1, k2, k3, k4⟩ := readL_at (d := d) (off := off) l (f + x.recs.length) h3 (by omega) (by omega)
      refine ⟨y, List.mem_cons_of_mem _ hy, j, r, k1, k2, ?_, ?_⟩
      · rw [allR_cons, List.getElem?_append_right (by omega), ← k3]
        congr 1; omega
      · rw [readL, readX_skip x.recs 0 0 [] (by omega)]
        exact k4
theorem rec_at : ∀ (l : List BA) (i : Nat), i < lenT l → ∃ m r, l[m]? = some r ∧ lenT (l.take m) ≤ i ∧ i < lenT (l.take m) + (12 + r.size)
  | [], i, h => by simp [lenT] at h
  | s :: l, i, h => by
    have e : lenT (s :: l) = 12 + s.size + lenT l := by simp [lenT]
    by_cases h1 : i < 12 + s.size
    · exact ⟨0, s, rfl, by simp [lenT], by simp [lenT]; omega⟩
    · obtain ⟨m, r, k1, k2, k3⟩ := rec_at l (i - (12 + s.size)) (by omega)
      refine ⟨m + 1, r, by simpa using k1, ?_, ?_⟩ <;> (simp [lenT] at k2 k3 ⊢; omega)
theorem split_at {l : List BA} {m : Nat} {r : BA} (h : l[m]? = some r) : l = l.take m ++ r :: l.drop (m + 1) := by
  have hm : m < l.length := by
    rcases Nat.lt_or_ge m l.length with h1 | h1
    · exact h1
    · rw [List.getElem?_eq_none h1] at h; cases h
  have hr : l[m] = r := by rw [List.getElem?_eq_getElem hm] at h; exact Option.some.inj h
  rw [← hr, List.getElem_cons_drop hm, List.take_append_drop]
theorem lenT_apart {l : List BA} {m j : Nat} {r s : BA} (h : l[m]? = some r) (h' : l[j]? = some s) (hmj : m < j) : lenT (l.take m) + (12 + r.size) ≤ lenT (l.take j) := by
  have e : l.take j = l.take m ++ r :: (l.take j).drop (m + 1) := by
    have h2 : (l.take j)[m]? = some r := by rw [List.getElem?_take_of_lt hmj, h]
    have := split_at h2
    rw [List.take_take, Nat.min_eq_left (by omega)] at this
    exact this
  rw [e, lenT_cat]
  have : lenT (r :: (l.take j).drop (m + 1)) = 12 + r.size + lenT ((l.take j).drop (m + 1)) := by simp [lenT]
  omega
theorem allOk_at {l : List BA} (h : allOk l = true) {m : Nat} {r : BA} (hm : l[m]? = some r) : r.size ≤ 4194304 := by
  unfold allOk at h
  rw [List.all_eq_true] at h
  exact of_decide_eq_true (h r (List.mem_of_getElem? hm))

structure Spoilt (d : Dk) (seg : Nat) (l : List Sg) (h : Nat) : Prop where
  lt : h < (allR l).length
  rd : ∀ i r, (allR l)[i]? = some r → readS d l i 1 = if i = h then ([], 71) else ([r], 0)
  op : ∃ lx, topenT d nT seg = (d, 71, lx)
theorem loadL_full' {name : BA} {seg f n : Nat} {d : Dk} (T : List Sg) (hs : 1 ≤ seg) (hf : f % seg = 0) (hd : d.Ok) (hst : d.still = false) : ∀ (b a : List Sg), Fl name seg f (a ++ b) → (a ++ b).length < n →
    (∀ y ∈ b, mayN y.file = true ∧ fget y.file d.files = some (framesOf y.recs) ∧ allOk y.recs = true) →
    loadL seg n (b.map zS ++ T) a.length a d = loadL seg n T (a ++ b).length (a ++ b) d
  | [], a, _, _, _ => by rw [List.append_nil]; rfl
  | y :: b, a, hl, hn, hy => by
    obtain ⟨h1, h2, h3⟩ := hy y (List.mem_cons_self ..)
    obtain ⟨hla, hlf, hlr, hll, _⟩ := Fl.app.1 hl
    have hne : y.recs ≠ [] := fun e => by rw [e, List.length_nil] at hll; omega
    have hlen : (a ++ y :: b).length = a.length + b.length + 1 := by rw [List.length_append, List.length_cons]; omega
    have hlast : decide ((a.length : Int) = (n : Int) - 1) = false := decide_eq_false (by omega)
    have hrd : readT d (zS y) (decide ((a.length : Int) = (n : Int) - 1)) = (y, false, 0) := by rw [hlast]; exact readT_full false hd hst h1 h2 h3 hne
    have e1 : bad1 seg y = false := by
      unfold bad1
      rw [decide_eq_true (tmod_nat (by rw [hlr, Nat.add_mul_mod_self_left, hf])), decide_eq_false (by omega)]
      rfl
    have e2 : bad2 a.length a y = false := by
      unfold bad2
      by_cases h0 : a = []
      · rw [h0]; rfl
      · rw [hla.next h0, hlr]; simp
    have e3 : bad3 seg n a.length y = false := by
      unfold bad3
      rw [decide_eq_true (show (y.recs.length : Int) = (seg : Int) by omega)]
      simp
    rw [List.map_cons, List.cons_append, loadL_cons _ _ _ _ _ _ _ _ hrd]
    dsimp only
    rw [if_neg (fun h => h rfl), e1, e2, e3, if_neg (by decide), if_neg (by decide), if_neg (by decide), if_neg (by decide)]
    have e4 : addL a y = a ++ [y] := by unfold addL; rw [if_pos (by omega)]
    rw [e4]
    have := loadL_full' (n := n) (d := d) T hs hf hd hst b (a ++ [y]) (by rw [List.append_assoc]; exact hl) (by rw [List.append_assoc]; exact hn) (fun z hz => hy z (List.mem_cons_of_mem _ hz))
    rw [List.append_assoc, List.length_append, List.length_singleton] at this
    exact this
theorem Tw.part {name : BA} {seg f : Nat} {l a c : List Sg} {y : Sg} (h : Tw name seg f l) (e : l = a ++ y :: c) : Fl name seg f a := by
  rcases h.sq with ⟨rfl, _⟩ | ⟨l0, x, rfl, hq, _⟩
  · simp at e
  · rcases List.eq_nil_or_concat c with rfl | ⟨c', z, rfl⟩
    · have := List.append_inj' e rfl
      rw [← this.1]; exact hq.fl
    · rw [List.concat_eq_append, show a ++ y :: (c' ++ [z]) = (a ++ y :: c') ++ [z] by simp] at e
      have := List.append_inj' e rfl
      rw [this.1] at hq
      exact (Fl.app.1 hq.fl).1
theorem flipD_ok {d : Dk} {k t u : BA} (hd : d.Ok) (hg : fget k d.files = some t) (hz : u.size = t.size) : (flipD d k u).Ok := by
  have h1 := fused_put k u d.files
  have ht : ftext k d.files = t := by unfold ftext; rw [hg]; rfl
  have hu := hd.used
  have hnd := fput_nodup k u hd.nd
  rw [ht] at h1
  have hle : fused (fput k u d.files) ≤ 16777216 := by omega
  exact ⟨hd.room0, hd.roomM, hd.fuse0, hd.fuseM, hle, rfl, trivial, hnd, hnd, fun j => by show fused (play (fput k u d.files) (([] : List Cl).take j)) ≤ _; rw [List.take_nil]; exact hle⟩
theorem spoilt_main {seg : Nat} {l : List Sg} {d : Dk} (hs : 1 ≤ seg) (hw : Tw nT seg 0 l) (hd : Firm d (fsS l)) {y : Sg} (hy : y ∈ l) {u : BA} {i : Nat} (hD : Diff (framesOf y.recs) u i) : (flipD d y.file u).Ok ∧ ∃ h, Spoilt (flipD d y.file u) seg l h := by
  have hnm := hw.nm hs
  have hmay : ∀ x ∈ l, mayN x.file = true := fun x hx => by rw [hnm.file x hx]; exact mayN_fileT nT _ may_nT (by decide)
  have hgy : ∀ x ∈ l, fget x.file d.files = some (framesOf x.recs) := fun x hx => by rw [hd.eq]; exact fget_fsS hnm.nodup hx
  have hOk : (flipD d y.file u).Ok := flipD_ok hd.ok (hgy y hy) hD.size.1.symm
  refine ⟨hOk, ?_⟩
  have hst : (flipD d y.file u).still = false := hd.still
  have hlo : (flipD d y.file u).loose = [] := rfl
  have hfy : fget y.file (flipD d y.file u).files = some u := by show fget y.file (fput y.file u d.files) = _; rw [fget_put, if_pos rfl]
  have hfx : ∀ x ∈ l, x ≠ y → fget x.file (flipD d y.file u).files = some (framesOf x.recs) := fun x hx hne => by
    have hne' : x.file ≠ y.file := by
      intro e
      have h1 := hnm.nodup
      obtain ⟨p, q, hpq⟩ := List.append_of_mem hx
      rw [hpq] at hy h1
      rw [List.map_append, List.map_cons, List.nodup_append, List.nodup_cons] at h1
      rcases List.mem_append.1 hy with h2 | h2
      · exact h1.2.2 _ (List.mem_map_of_mem h2) _ (List.mem_cons_self ..) e.symm
      · rcases List.mem_cons.1 h2 with h3 | h3
        · exact hne h3.symm
        · exact h1.2.1.1 (by rw [e]; exact List.mem_map_of_mem h3)
    show fget x.file (fput y.file u d.files) = _
    rw [fget_put, if_neg hne']; exact hgy x hx
  have hkeys : sortN ((flipD d y.file u).files.map (·.1)) = l.map (·.file) := by
    refine sortN_rise ?_ hnm.keys
    have hF : FEq (flipD d y.file u).files (fput y.file u (fsS l)) := hd.eq.put y.file u
    refine (hF.perm hOk.nd (fput_nodup _ _ (by rw [fsS_keys]; exact hnm.nodup))).trans ?_
    have : (fput y.file u (fsS l)).map (·.1) = (fsS l).map (·.1) := by
      have hm : y.file ∈ (fsS l).map (·.1) := by rw [fsS_keys]; exact List.mem_map_of_mem hy
      generalize fsS l = F at hm
      induction F with
      | nil => simp at hm
      | cons z F ih =>
        obtain ⟨b, w⟩ := z
        rw [fput]
        split
        · rename_i e; simp [e]
        · rename_i e
          rw [List.map_cons, List.map_cons, ih]
          rcases List.mem_cons.1 hm with h | h
          · exact absurd h e
          · exact h
    rw [this, fsS_keys]
  generalize flipD d y.file u = d' at *
  have hay := allOk_mem hw.ok hy
  obtain ⟨m, r, hm, k1, k2⟩ := rec_at y.recs i (by have := hD.size.2; rw [framesOf_size] at this; exact this)
  have hml : m < y.recs.length := by
    rcases Nat.lt_or_ge m y.recs.length with h1 | h1
    · exact h1
    · rw [List.getElem?_eq_none h1] at hm; cases hm
  have hc := hw.cn
  have hcy := Cn.lo hc y hy
  refine ⟨y.first + m, ⟨by omega, ?_, ?_⟩⟩
  · intro k s hk
    have hkl : k < (allR l).length := by
      rcases Nat.lt_or_ge k (allR l).length with h1 | h1
      · exact h1
      · rw [List.getElem?_eq_none h1] at hk; cases hk
    have hfst := hw.first
    have hnx := hw.next
    unfold readS
    rw [if_neg (by omega)]
    obtain ⟨x, hx, j, r', a1, a2, a3, a4⟩ := readL_at (d := d') l 0 hc (Nat.zero_le k) (by omega)
    rw [Nat.sub_zero, hk] at a3
    obtain rfl := Option.some.inj a3
    rw [a4]
    have hjl : j < x.recs.length := by
      rcases Nat.lt_or_ge j x.recs.length with h1 | h1
      · exact h1
      · rw [List.getElem?_eq_none h1] at a2; cases a2
    have hax := allOk_at (allOk_mem hw.ok hx) a2
    by_cases hxy : x = y
    · subst hxy
      by_cases hjm : j = m
      · subst hjm
        obtain rfl : s = r := Option.some.inj (a2.symm.trans hm)
        rw [getT_bad (a := x.recs.take j) (b := x.recs.drop (j + 1)) hst (hmay x hx) hfy hax (by rw [← split_at a2]; exact hD) k1 k2, if_pos (by decide), if_pos (by omega)]
      · rw [getT_out (a := x.recs.take j) (b := x.recs.drop (j + 1)) hst (hmay x hx) hfy hax (by rw [← split_at a2]; exact hD) ?_, if_neg (fun h => h rfl), if_neg (by omega)]
        rcases Nat.lt_or_gt_of_ne hjm with h1 | h1
        · right; have := lenT_apart a2 hm h1; omega
        · left; have := lenT_apart hm a2 h1; omega
    · rw [getT_ok (a := x.recs.take j) (b := x.recs.drop (j + 1)) hst (hmay x hx) (by rw [← split_at a2]; exact hfx x hx hxy) hax, if_neg (fun h => h rfl), if_neg (fun e => hxy (hc.uniq x hx y hy j m (by omega) hjl hml).1)]
  · obtain ⟨a, c, hac⟩ := List.append_of_mem hy
    have hfl := hw.part hac
    rw [topen_eq may_nT hst]
    unfold loadT
    rw [hkeys, hnm.files]
    show ∃ lx, loadE (loadL seg (l.map zS).length (l.map zS) 0 [] d') = _
    have hl1 : l.map zS = a.map zS ++ (zS y :: c.map zS) := by rw [hac, List.map_append, List.map_cons]
    have hnd := hnm.nodup
    have h1 := loadL_full' (name := nT) (seg := seg) (f := 0) (n := (l.map zS).length) (d := d') (zS y :: c.map zS) hs (Nat.zero_mod _) hOk hst a [] hfl (by rw [List.nil_append, List.length_map, hac, List.length_append, List.length_cons]; omega) (fun x hx => by
      have hxl : x ∈ l := by rw [hac]; exact List.mem_append_left _ hx
      refine ⟨hmay x hxl, hfx x hxl ?_, allOk_mem hw.ok hxl⟩
      intro e
      rw [hac, List.map_append, List.nodup_append] at hnd
      exact hnd.2.2 _ (List.mem_map_of_mem hx) _ (List.mem_map_of_mem (List.mem_cons_self ..)) (by rw [e]))
    rw [hl1] at h1 ⊢
    rw [List.length_nil] at h1
    rw [h1]
    obtain ⟨rt, hrt⟩ : ∃ rt, readT d' (zS y) (decide ((([] ++ a).length : Int) = ((a.map zS ++ (zS y :: c.map zS)).length : Int) - 1)) = rt := ⟨_, rfl⟩
    have h71 := readT_spoilt (decide ((([] ++ a).length : Int) = ((a.map zS ++ (zS y :: c.map zS)).length : Int) - 1)) hOk hst (hmay y hy) hfy hay hD
    rw [loadL_cons _ _ _ _ _ _ _ _ hrt]
    have h72 : rt.2.2 = 71 := by rw [← hrt]; exact h71
    rw [if_pos (by rw [h72]; decide), h72]
    unfold loadE
    dsimp only
    rw [if_pos (by decide)]
    exact ⟨_, rfl⟩
end Go.Proofs.YtadgdikijdmceaaGreat
