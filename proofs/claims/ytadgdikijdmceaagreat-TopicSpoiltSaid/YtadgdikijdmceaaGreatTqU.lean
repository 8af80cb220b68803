import Derived.Test.YtadgdikijdmceaaGreatTqT
set_option linter.unusedSimpArgs false
set_option linter.unusedVariables false
namespace Go.Proofs.YtadgdikijdmceaaGreat
open Go Go.Fx Go.Pl

theorem UndoOk.congr {u : List Sg} {F0 F F' : FS} (h : FEq F F') (k : UndoOk u F0 F') : UndoOk u F0 F := fun d h1 => k d (h1.trans h)
structure LayS (name : BA) (seg f : Nat) (A B : List BA) (F0 : FS) (n : Nat) (l u : List Sg) (rs : List BA) (d : Dk) : Prop where
  mu : muL seg l rs ≤ n
  sq : Sqm name seg f l
  eq : FEq d.files (fsS (nrm l))
  st : d.still = false
  cr : CInv (AppC name seg f A B) d
  rc : ∃ i, allR l = A ++ B.take i ∧ rs = B.drop i
  nx : nextS l + rs.length < 281474976710656
  un : UndoOk u F0 (fsS (nrm l))
  tw : rs = [] → Tw name seg f l
structure LayOK (name : BA) (seg f : Nat) (A B : List BA) (d : Dk) (r : Dk × Int × List Sg × List Sg) : Prop where
  e : r.2.1 = 0
  tw : Tw name seg f r.2.2.1
  rc : allR r.2.2.1 = A ++ B
  eq : FEq r.1.files (fsS r.2.2.1)
  st : r.1.still = false
  cr : CInv (AppC name seg f A B) r.1
  room : r.1.room = d.room
  fuse : d.fuse = -1 → r.1.fuse = -1
structure LayFull (F0 : FS) (rs : List BA) (d : Dk) (r : Dk × Int × List Sg × List Sg) : Prop where
  e : r.2.1 = 4
  un : UndoOk r.2.2.2 F0 r.1.files
  ok : r.1.Ok
  st : r.1.still = false
  room : r.1.room = d.room
  fuse : d.fuse = -1 → r.1.fuse = -1
  few : d.room < (fused d.files : Int) + (lenT rs : Int)
  some : r.2.2.2 = [] → r.1 = d
theorem tailS_ne {x : Sg} (h : x.recs ≠ []) : tailS x = [x] := by
  unfold tailS
  cases hr : x.recs with
  | nil => exact absurd hr h
  | cons a l => rfl
theorem allOk_part {l : List BA} (h : allOk l = true) {m : List BA} (hm : ∀ x ∈ m, x ∈ l) : allOk m = true := by
  unfold allOk at h ⊢
  rw [List.all_eq_true] at h ⊢
  exact fun x hx => h x (hm x hx)
theorem append_cases {d : Dk} {k s : BA} (hm : mayN k = true) (hs : d.still = false) : (d.append k s = (d, 4) ∧ d.room < (fused d.files : Int) + s.size) ∨ d.append k s = d.doC (.app k s) := by
  unfold Dk.append
  rw [live1 d hm, hs, if_neg (by decide)]
  split
  · rename_i h
    rw [Bool.and_eq_true] at h
    exact .inl ⟨rfl, of_decide_eq_true h.2⟩
  · exact .inr rfl
theorem layT_und (name : BA) (seg : Nat) : ∀ (n : Nat) (l u : List Sg) (rs : List BA) (d : Dk), ∃ z, (layT name seg n l u rs d).2.2.2 = u ++ z
  | 0, l, u, rs, d => ⟨[], (List.append_nil u).symm⟩
  | n + 1, l, u, rs, d => by
    rw [layT]
    split
    · exact ⟨[], (List.append_nil u).symm⟩
    · split
      · exact layT_und name seg n _ _ _ _
      · rename_i x _
        split
        · exact layT_und name seg n _ _ _ _
        · split
          · exact ⟨[], (List.append_nil u).symm⟩
          · obtain ⟨z, hz⟩ := layT_und name seg n (l.dropLast ++ [⟨x.file, x.first, x.recs ++ rs.take (seg - x.recs.length)⟩]) (u ++ [x]) (rs.drop (seg - x.recs.length)) (d.append x.file (allF (rs.take (seg - x.recs.length)))).1
            exact ⟨[x] ++ z, by rw [hz, List.append_assoc]⟩
theorem layT_main {name : BA} {seg f : Nat} {A B : List BA} {F0 : FS} (hm : mayN name = true) (hz : name.size ≤ 32) (hs : 1 ≤ seg) (hmod : f % seg = 0) (hA : A = [] → f = 0) (hok : allOk (A ++ B) = true) (hlen : lenT B ≤ 549755813888) : ∀ (n : Nat) (l u : List Sg) (rs : List BA) (d : Dk), LayS name seg f A B F0 n l u rs d →
    LayOK name seg f A B d (layT name seg n l u rs d) ∨ LayFull F0 rs d (layT name seg n l u rs d) ∨ ((layT name seg n l u rs d).2.1 = 20 ∧ CInv (AppC name seg f A B) (layT name seg n l u rs d).1 ∧ d.fuse ≠ -1) := by
  intro n
  induction n with
  | zero =>
    intro l u rs d h
    have h0 := h.mu
    unfold muL at h0
    have hr : rs = [] := List.eq_nil_of_length_eq_zero (by split at h0 <;> omega)
    obtain ⟨i, h1, h2⟩ := h.rc
    have ht := h.tw hr
    have hB : B.take i = B := by
      have := List.take_append_drop i B
      rw [← h2, hr, List.append_nil] at this
      exact this
    have he := h.eq
    rw [ht.nrm hs] at he
    exact .inl ⟨rfl, ht, by show allR l = _; rw [h1, hB], he, h.st, h.cr, rfl, fun h => h⟩
  | succ n ih =>
    intro l u rs d h
    by_cases hr : rs = []
    · obtain ⟨i, h1, h2⟩ := h.rc
      have ht := h.tw hr
      have hB : B.take i = B := by
        have := List.take_append_drop i B
        rw [← h2, hr, List.append_nil] at this
        exact this
      have he := h.eq
      rw [ht.nrm hs] at he
      subst hr
      rw [layT_done]
      exact .inl ⟨rfl, ht, by show allR l = _; rw [h1, hB], he, h.st, h.cr, rfl, fun h => h⟩
    · have hr0 : rs.length ≠ 0 := fun e => hr (List.eq_nil_of_length_eq_zero e)
      have hmu := h.mu
      have hnx := h.nx
      cases hful : fullS seg l with
      | true =>
        rw [layT_new hful hr0]
        have e1 : allR (l ++ [newS name l]) = allR l := by rw [allR_app, allR_one]; exact List.append_nil _
        have e2 : nrm (l ++ [newS name l]) = nrm l := by rw [nrm_app, nrm_one]; exact List.append_nil _
        refine ih _ _ _ _ ⟨?_, ?_, by rw [e2]; exact h.eq, h.st, h.cr, by rw [e1]; exact h.rc, by rw [nextS_new]; exact h.nx, by rw [e2]; exact h.un, fun e => absurd e hr⟩
        · unfold muL at hmu ⊢
          rw [hful, if_pos rfl] at hmu
          rw [fullS_new _ _ _ (by omega), if_neg (by decide)]
          omega
        · rcases h.sq with ⟨rfl, rfl⟩ | ⟨l0, x, rfl, hq⟩
          · exact .inr ⟨[], newS name [], rfl, ⟨trivial, by show 0 = _; simp, rfl, Nat.zero_le _, by show 0 < _; decide⟩⟩
          · have hxl : x.recs.length = seg := by
              unfold fullS at hful
              rw [List.getLast?_concat] at hful
              exact of_decide_eq_true hful
            have hfl : Fl name seg f (l0 ++ [x]) := Fl.app.2 ⟨hq.fl, by rw [← hq.first]; exact hq.file, hq.first, hxl, trivial⟩
            have hne := hfl.next (by simp)
            refine .inr ⟨l0 ++ [x], newS name (l0 ++ [x]), rfl, ⟨hfl, hne, rfl, Nat.zero_le _, ?_⟩⟩
            show nextS (l0 ++ [x]) < _
            omega
      | false =>
        rcases h.sq with ⟨rfl, rfl⟩ | ⟨l0, x, rfl, hq⟩
        · cases hful
        · have hlast : (l0 ++ [x]).getLast? = some x := List.getLast?_concat ..
          have hne : x.recs.length ≠ seg := by
            unfold fullS at hful
            rw [hlast] at hful
            exact of_decide_eq_false hful
          have hle := hq.le
          have hmx : mayN x.file = true := by rw [hq.file]; exact mayN_fileT name _ hm hz
          obtain ⟨i, hi1, hi2⟩ := h.rc
          generalize hqe : seg - x.recs.length = q at *
          have hq1 : 1 ≤ q := by omega
          have hsomem : ∀ r ∈ rs.take q, r ∈ A ++ B := fun r hx => List.mem_append_right _ (by rw [hi2] at hx; exact List.mem_of_mem_drop (List.mem_of_mem_take hx))
          have hsok := allOk_part hok hsomem
          have hsF : allF (rs.take q) = framesOf (rs.take q) := by unfold allF; rw [hsok]; rfl
          have hsz : (allF (rs.take q)).size = lenT (rs.take q) := by rw [hsF, framesOf_size]
          have hspl := lenT_split rs q
          have hspB := lenT_split B i
          rw [← hi2] at hspB
          have hla := fun r he => layT_app (name := name) (seg := seg) (n := n) (u := u) (rs := rs) (d := d) (r := r) hlast hne hr0 he
          rw [hqe] at hla
          have heq := h.eq
          rw [hq.nrm hs] at heq
          have hun := h.un
          rw [hq.nrm hs] at hun
          have hokA : (d.append x.file (allF (rs.take q))).1.Ok := h.cr.ok.append (by omega)
          rcases append_cases (d := d) (k := x.file) (s := allF (rs.take q)) hmx h.st with ⟨he, hfull⟩ | he
          · rw [hla _ he]
            dsimp only
            rw [if_pos (show (4 : Int) ≠ 0 by decide)]
            refine .inr (.inl ⟨rfl, hun.congr heq, h.cr.ok, h.st, rfl, fun h => h, ?_, fun _ => rfl⟩)
            rw [hsz] at hfull
            omega
          · rw [hla _ he]
            rw [he] at hokA
            have hrsne : rs.take q ≠ [] := fun e => by
              have := congrArg List.length e
              rw [List.length_take, List.length_nil] at this
              omega
            have hmne : (more x (rs.take q)).recs ≠ [] := fun e => hrsne (List.append_eq_nil_iff.1 e).2
            have hsqm := hq.more (l := rs.take q) (by rw [List.length_take]; omega)
            have hrun : FEq ((Cl.app x.file (allF (rs.take q))).run d.files) (fsS (l0 ++ [more x (rs.take q)])) := by
              refine (put_tail hq hs heq _).trans ?_
              rw [hsF, show framesOf (rs.take q) = framesOf (rs.take q) ++ ⟨#[]⟩ from (ba_nil _).symm, fsT_more, fsT_none]
              exact .refl _
            have hnr : nrm (l0 ++ [more x (rs.take q)]) = l0 ++ [more x (rs.take q)] := by rw [hsqm.nrm hs, tailS_ne hmne]
            have hAi : allR (l0 ++ [x]) = [] → f = 0 := fun e => hA (by rw [hi1] at e; exact (List.append_eq_nil_iff.1 e).1)
            have hall : ∀ k, allR (l0 ++ [more x (rs.take k)]) = A ++ B.take (i + k) := fun k => by
              have e1 : allR (l0 ++ [more x (rs.take k)]) = allR (l0 ++ [x]) ++ rs.take k := by rw [allR_app, allR_app, allR_one, allR_one, List.append_assoc]; rfl
              rw [e1, hi1, hi2, List.take_add, List.append_assoc]
            have hcr1 : CInv (AppC name seg f A B) (d.doC (.app x.file (allF (rs.take q)))).1 := by
              refine h.cr.doC hokA (fun t => ?_) ?_
              · unfold Cl.piece
                dsimp only
                by_cases ht : 0 < t
                · rw [if_pos ht]
                  obtain ⟨j, tl, hj, htl⟩ := cut_frames (rs.take q) hsok (if ((allF (rs.take q)).size : Int) < t then ((allF (rs.take q)).size : Int) else t).toNat
                  show AppC name seg f A B ((Cl.app x.file _).run d.files)
                  have hpt := put_tail hq hs heq ((allF (rs.take q)).extract 0 (if ((allF (rs.take q)).size : Int) < t then ((allF (rs.take q)).size : Int) else t).toNat)
                  rw [hsF] at hpt hj ⊢
                  refine ⟨i + min j q, .inr ⟨l0, more x (rs.take (min j q)), tl, ?_, htl, hpt.trans (by rw [hj, fsT_more, List.take_take]; exact .refl _), hall _⟩⟩
                  exact hq.more (by rw [List.length_take]; omega)
                · rw [if_neg ht]
                  exact ⟨i, by rw [← hi1]; exact torn_nrm hs h.sq hAi h.eq⟩
              · refine ⟨i + q, .inr ⟨l0, more x (rs.take q), ⟨#[]⟩, hsqm, .inl rfl, ?_, hall q⟩⟩
                rw [fsT_none]
                exact hrun
            rcases doC_20 d (.app x.file (allF (rs.take q))) with ⟨hf, he2⟩ | ⟨hf, he2, hfi, hst', hro, hsu, hlo, hfu⟩
            · rw [he2]
              dsimp only
              rw [if_pos (show (20 : Int) ≠ 0 by decide)]
              rw [he2] at hcr1
              exact .inr (.inr ⟨rfl, hcr1, by omega⟩)
            · rw [he2, if_neg (fun h => h rfl)]
              have hfus : fused ((Cl.app x.file (allF (rs.take q))).run d.files) = fused d.files + lenT (rs.take q) := by
                have := fused_put x.file (ftext x.file d.files ++ allF (rs.take q)) d.files
                rw [ByteArray.size_append, hsz] at this
                show fused (fput x.file (ftext x.file d.files ++ allF (rs.take q)) d.files) = _
                omega
              rw [← hfi] at hfus hrun
              have hAll := hall q
              have hdl : (l0 ++ [x]).dropLast = l0 := List.dropLast_concat ..
              rw [hdl]
              generalize (d.doC (.app x.file (allF (rs.take q)))).1 = D at hcr1 hfi hst' hro hfu hfus hrun
              have hTw : Tw name seg f (l0 ++ [more x (rs.take q)]) := ⟨hmod, by
                rw [hAll]
                refine allOk_part hok fun r hr => ?_
                rcases List.mem_append.1 hr with hr | hr
                · exact List.mem_append_left _ hr
                · exact List.mem_append_right _ (List.mem_of_mem_take hr), .inr ⟨l0, _, rfl, hsqm, hmne⟩⟩
              have hlay : LayS name seg f A B F0 n (l0 ++ [more x (rs.take q)]) (u ++ [x]) (rs.drop q) D := by
                refine ⟨?_, hTw.sqm, by rw [hnr]; exact hrun, by rw [hst', h.st], hcr1, ⟨i + q, hAll, by rw [hi2, List.drop_drop]⟩, ?_, ?_, fun _ => hTw⟩
                · unfold muL at hmu ⊢
                  rw [List.length_drop]
                  split <;> split at hmu <;> omega
                · rw [hTw.next, hAll, List.length_drop]
                  have h5 : nextS (l0 ++ [x]) = x.first + x.recs.length := by unfold nextS; rw [hlast]
                  have h6 := congrArg List.length hAll
                  rw [allR_app, allR_one, List.length_append, hq.fl.recs] at h6
                  have h7 : (more x (rs.take q)).recs.length = x.recs.length + (rs.take q).length := List.length_append ..
                  rw [h7, List.length_take] at h6
                  have h8 := hq.first
                  omega
                · rw [hnr, show fsS (l0 ++ [more x (rs.take q)]) = fsT l0 x (framesOf (rs.take q)) by rw [show framesOf (rs.take q) = framesOf (rs.take q) ++ ⟨#[]⟩ from (ba_nil _).symm, fsT_more, fsT_none]]
                  exact UndoOk.snoc hm hz hq hs hun _
              rcases ih _ _ _ _ hlay with g | g | ⟨g1, g2, g3⟩
              · exact .inl ⟨g.e, g.tw, g.rc, g.eq, g.st, g.cr, g.room.trans hro, fun h => g.fuse (hfu h)⟩
              · refine .inr (.inl ⟨g.e, g.un, g.ok, g.st, g.room.trans hro, fun h => g.fuse (hfu h), ?_, ?_⟩)
                · have := g.few
                  rw [hro, hfus] at this
                  omega
                · intro e
                  exfalso
                  have := layT_und name seg n (l0 ++ [more x (rs.take q)]) (u ++ [x]) (rs.drop q) D
                  have h9 : layT name seg n (l0 ++ [⟨x.file, x.first, x.recs ++ rs.take q⟩]) (u ++ [x]) (rs.drop q) D = layT name seg n (l0 ++ [more x (rs.take q)]) (u ++ [x]) (rs.drop q) D := rfl
                  rw [h9] at e
                  obtain ⟨z, hz⟩ := this
                  rw [hz] at e
                  simp at e
              · exact .inr (.inr ⟨g1, g2, fun h => g3 (hfu h)⟩)
end Go.Proofs.YtadgdikijdmceaaGreat
